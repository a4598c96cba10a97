/- Race: the contract of Conflict. -/
import Derived.Test.YtpcjcmbhoglnfaaX
import Derived.Deep.RegionHeld3
namespace Go.Proofs.Ytpcjcmbhoglnfaa
open Go.RowKit
set_option linter.unusedVariables false
set_option linter.unusedSimpArgs false

def evA (x : Ev) (l : Nat) : Array Value := #[.int .u8 x.kind, .int .i64 x.thread, .int .i64 x.id, .slice x.pa l x.pc]
/-- two events in boxes, and what lay before -/
structure Two (w : World) (x y : Ev) (lx ly : Nat) (W : World) : Prop where
  bx : Blk W w.heap.size 26 (evA x lx)
  bel : Below w.heap.size w W
  by_ : Blk W (w.heap.size + 1) 26 (evA y ly)
section
variable {w W W' : World} {x y : Ev} {lx ly : Nat}
theorem Two.start (w : World) (x y : Ev) (lx ly : Nat) : Two w x y lx ly ((w.alloc (.cells (evA x lx) 26)).alloc (.cells (evA y ly) 26)) :=
  ⟨(Blk.new w 26 _).alloc _, ((Below.refl _ w).alloc (Nat.le_refl _) _).alloc (by simp) _, blk1 w 26 _ _⟩
theorem Two.below (h : Two w x y lx ly W) (hb : Below W.heap.size W W') : Two w x y lx ly W' :=
  ⟨h.bx.below hb h.bx.lt, h.bel.trans (hb.mono h.bel.size), h.by_.below hb h.by_.lt⟩
theorem Two.drew (h : Two w x y lx ly W) : Two w x y lx ly W.drew := h.below (Below.refl _ W).drew
theorem Two.drewN (h : Two w x y lx ly W) (n : Nat) : Two w x y lx ly (W.drewN n) := h.below (below_drewN (Below.refl _ W) n)
theorem Two.cells (h : Two w x y lx ly W) :
    W.cell? ⟨w.heap.size, 0, none⟩ = some (.int .u8 x.kind) ∧ W.cell? ⟨w.heap.size, 1, none⟩ = some (.int .i64 x.thread) ∧ W.cell? ⟨w.heap.size, 2, none⟩ = some (.int .i64 x.id) ∧ W.cell? ⟨w.heap.size, 3, none⟩ = some (.slice x.pa lx x.pc) ∧
    W.cell? ⟨w.heap.size + 1, 0, none⟩ = some (.int .u8 y.kind) ∧ W.cell? ⟨w.heap.size + 1, 1, none⟩ = some (.int .i64 y.thread) ∧ W.cell? ⟨w.heap.size + 1, 2, none⟩ = some (.int .i64 y.id) ∧ W.cell? ⟨w.heap.size + 1, 3, none⟩ = some (.slice y.pa ly y.pc) :=
  ⟨h.bx.cell 0, h.bx.cell 1, h.bx.cell 2, h.bx.cell 3, h.by_.cell 0, h.by_.cell 1, h.by_.cell 2, h.by_.cell 3⟩
end
/-- the same, said cell by cell for a walk -/
def Two8 (w : World) (x y : Ev) (lx ly : Nat) (W : World) : Prop := Two w x y lx ly W
theorem plain_two {w W : World} {x y : Ev} {lx ly : Nat} (z : Ev) (lz : Nat) (hz : z.path.length = lz) (h : Two w x y lx ly W) :
    Calls Try.prog 45 #[.agg #[.int .u8 z.kind, .int .i64 z.thread, .int .i64 z.id, .slice z.pa lz z.pc]] W fun r w' => r = .returned (.slice (plainA z) (plainP z).length (plainC z)) ∧
      (w'.cell? ⟨w.heap.size, 0, none⟩ = some (.int .u8 x.kind) ∧ w'.cell? ⟨w.heap.size, 1, none⟩ = some (.int .i64 x.thread) ∧ w'.cell? ⟨w.heap.size, 2, none⟩ = some (.int .i64 x.id) ∧ w'.cell? ⟨w.heap.size, 3, none⟩ = some (.slice x.pa lx x.pc) ∧
    w'.cell? ⟨w.heap.size + 1, 0, none⟩ = some (.int .u8 y.kind) ∧ w'.cell? ⟨w.heap.size + 1, 1, none⟩ = some (.int .i64 y.thread) ∧ w'.cell? ⟨w.heap.size + 1, 2, none⟩ = some (.int .i64 y.id) ∧ w'.cell? ⟨w.heap.size + 1, 3, none⟩ = some (.slice y.pa ly y.pc) ∧ Two8 w x y lx ly w') := by
  refine (plain_any z lz W hz).mono ?_
  rintro r w' ⟨rfl, hb⟩
  have h2 := h.below hb
  obtain ⟨a, b, c, d, e, f, g, i⟩ := h2.cells
  exact ⟨rfl, a, b, c, d, e, f, g, i, h2⟩

theorem two_of {w W : World} {x y : Ev} {lx ly : Nat} (h : W.cell? ⟨w.heap.size, 0, none⟩ = some (.int .u8 x.kind) ∧ W.cell? ⟨w.heap.size, 1, none⟩ = some (.int .i64 x.thread) ∧ W.cell? ⟨w.heap.size, 2, none⟩ = some (.int .i64 x.id) ∧ W.cell? ⟨w.heap.size, 3, none⟩ = some (.slice x.pa lx x.pc) ∧ W.cell? ⟨w.heap.size + 1, 0, none⟩ = some (.int .u8 y.kind) ∧ W.cell? ⟨w.heap.size + 1, 1, none⟩ = some (.int .i64 y.thread) ∧ W.cell? ⟨w.heap.size + 1, 2, none⟩ = some (.int .i64 y.id) ∧ W.cell? ⟨w.heap.size + 1, 3, none⟩ = some (.slice y.pa ly y.pc) ∧ Two8 w x y lx ly W) : Two w x y lx ly W := h.2.2.2.2.2.2.2.2

set_option maxRecDepth 100000 in
set_option maxHeartbeats 12800000 in
theorem conflict_no1 (x y : Ev) (lx ly : Nat) (w : World) (hlx : x.path.length = lx) (hly : y.path.length = ly) (ox : EvOk w w.heap.size x) (oy : EvOk w w.heap.size y) (hx9 : lx ≤ 1000000) (hy9 : ly ≤ 1000000) (ha : accB x.kind = false) :
    Calls Try.prog 40 #[.agg #[.int .u8 x.kind, .int .i64 x.thread, .int .i64 x.id, .slice x.pa lx x.pc], .agg #[.int .u8 y.kind, .int .i64 y.thread, .int .i64 y.id, .slice y.pa ly y.pc]] w fun r w' => r = .returned (.bool false) ∧ Below w.heap.size w w' := by
  have HA := fun W => Lib.hid (access_any (k := x.kind) (t := x.thread) (i := x.id) (pa := x.pa) (pl := lx) (pc := x.pc) (w := W) false ha)
  have HB0 := Lib.hid ((((Below.refl _ w).alloc (Nat.le_refl _) (.cells (evA x lx) 26)).alloc (by simp) (.cells (evA y ly) 26)))
  clear ha ox oy hlx hly
  go_enter Try.func40, Try.ntmps40
  go_wp2_with fail
  refine (HA _).out.mono ?_
  rintro r w1 ⟨rfl, hb⟩
  go_wp2
  go_ret
  exact ⟨rfl, HB0.out.trans (hb.mono (by simp; omega))⟩

set_option maxRecDepth 100000 in
set_option maxHeartbeats 12800000 in
theorem conflict_no2 (x y : Ev) (lx ly : Nat) (w : World) (hlx : x.path.length = lx) (hly : y.path.length = ly) (ox : EvOk w w.heap.size x) (oy : EvOk w w.heap.size y) (hx9 : lx ≤ 1000000) (hy9 : ly ≤ 1000000) (ha : accB x.kind = true) (ha2 : accB y.kind = false) :
    Calls Try.prog 40 #[.agg #[.int .u8 x.kind, .int .i64 x.thread, .int .i64 x.id, .slice x.pa lx x.pc], .agg #[.int .u8 y.kind, .int .i64 y.thread, .int .i64 y.id, .slice y.pa ly y.pc]] w fun r w' => r = .returned (.bool false) ∧ Below w.heap.size w w' := by
  have HA := fun W => Lib.hid (access_any (k := x.kind) (t := x.thread) (i := x.id) (pa := x.pa) (pl := lx) (pc := x.pc) (w := W) true ha)
  have HA2 := fun W => Lib.hid (access_any (k := y.kind) (t := y.thread) (i := y.id) (pa := y.pa) (pl := ly) (pc := y.pc) (w := W) false ha2)
  have HT := Lib.hid (Two.start w x y lx ly)
  clear ha ha2 ox oy hlx hly
  go_enter Try.func40, Try.ntmps40
  go_wp2_with fail
  refine (HA _).out.mono ?_
  rintro r w1 ⟨rfl, hb⟩
  have hT := HT.out.below hb
  have HT2 := Lib.hid hT
  clear hT hb 
  clear HT
  have HT := HT2
  clear HT2
  obtain ⟨x0, x1, x2, x3, y0, y1, y2, y3⟩ := HT.out.cells
  go_wp2_with fail
  refine (HA2 _).out.mono ?_
  rintro r w2 ⟨rfl, hb⟩
  have hT := HT.out.below hb
  have HT2 := Lib.hid hT
  clear hT hb x0 x1 x2 x3 y0 y1 y2 y3
  clear HT
  have HT := HT2
  clear HT2
  obtain ⟨x0, x1, x2, x3, y0, y1, y2, y3⟩ := HT.out.cells
  go_wp2
  go_ret
  exact ⟨rfl, HT.out.bel⟩

set_option maxRecDepth 100000 in
set_option maxHeartbeats 12800000 in
theorem conflict_no3 (x y : Ev) (lx ly : Nat) (w : World) (hlx : x.path.length = lx) (hly : y.path.length = ly) (ox : EvOk w w.heap.size x) (oy : EvOk w w.heap.size y) (hx9 : lx ≤ 1000000) (hy9 : ly ≤ 1000000) (ha : accB x.kind = true) (ha2 : accB y.kind = true) (ht : x.thread = y.thread) :
    Calls Try.prog 40 #[.agg #[.int .u8 x.kind, .int .i64 x.thread, .int .i64 x.id, .slice x.pa lx x.pc], .agg #[.int .u8 y.kind, .int .i64 y.thread, .int .i64 y.id, .slice y.pa ly y.pc]] w fun r w' => r = .returned (.bool false) ∧ Below w.heap.size w w' := by
  have HA := fun W => Lib.hid (access_any (k := x.kind) (t := x.thread) (i := x.id) (pa := x.pa) (pl := lx) (pc := x.pc) (w := W) true ha)
  have HA2 := fun W => Lib.hid (access_any (k := y.kind) (t := y.thread) (i := y.id) (pa := y.pa) (pl := ly) (pc := y.pc) (w := W) true ha2)
  have HT := Lib.hid (Two.start w x y lx ly)
  have e1 : (x.thread == y.thread) = true := by simpa using ht
  clear ha ha2 ox oy hlx hly ht
  go_enter Try.func40, Try.ntmps40
  go_wp2_with fail
  refine (HA _).out.mono ?_
  rintro r w1 ⟨rfl, hb⟩
  have hT := HT.out.below hb
  have HT2 := Lib.hid hT
  clear hT hb 
  clear HT
  have HT := HT2
  clear HT2
  obtain ⟨x0, x1, x2, x3, y0, y1, y2, y3⟩ := HT.out.cells
  go_wp2_with fail
  refine (HA2 _).out.mono ?_
  rintro r w2 ⟨rfl, hb⟩
  have hT := HT.out.below hb
  have HT2 := Lib.hid hT
  clear hT hb x0 x1 x2 x3 y0 y1 y2 y3
  clear HT
  have HT := HT2
  clear HT2
  obtain ⟨x0, x1, x2, x3, y0, y1, y2, y3⟩ := HT.out.cells
  go_wp2
  go_ret
  exact ⟨rfl, HT.out.bel⟩

set_option maxRecDepth 100000 in
set_option maxHeartbeats 12800000 in
theorem conflict_no4 (x y : Ev) (lx ly : Nat) (w : World) (hlx : x.path.length = lx) (hly : y.path.length = ly) (ox : EvOk w w.heap.size x) (oy : EvOk w w.heap.size y) (hx9 : lx ≤ 1000000) (hy9 : ly ≤ 1000000) (ha : accB x.kind = true) (ha2 : accB y.kind = true) (ht : x.thread ≠ y.thread) (hi : x.id ≠ y.id) :
    Calls Try.prog 40 #[.agg #[.int .u8 x.kind, .int .i64 x.thread, .int .i64 x.id, .slice x.pa lx x.pc], .agg #[.int .u8 y.kind, .int .i64 y.thread, .int .i64 y.id, .slice y.pa ly y.pc]] w fun r w' => r = .returned (.bool false) ∧ Below w.heap.size w w' := by
  have HA := fun W => Lib.hid (access_any (k := x.kind) (t := x.thread) (i := x.id) (pa := x.pa) (pl := lx) (pc := x.pc) (w := W) true ha)
  have HA2 := fun W => Lib.hid (access_any (k := y.kind) (t := y.thread) (i := y.id) (pa := y.pa) (pl := ly) (pc := y.pc) (w := W) true ha2)
  have HT := Lib.hid (Two.start w x y lx ly)
  have e1 : (x.thread == y.thread) = false := by simpa using ht
  have e2 : (x.id != y.id) = true := by simpa using hi
  clear ha ha2 ox oy hlx hly ht hi
  go_enter Try.func40, Try.ntmps40
  go_wp2_with fail
  refine (HA _).out.mono ?_
  rintro r w1 ⟨rfl, hb⟩
  have hT := HT.out.below hb
  have HT2 := Lib.hid hT
  clear hT hb 
  clear HT
  have HT := HT2
  clear HT2
  obtain ⟨x0, x1, x2, x3, y0, y1, y2, y3⟩ := HT.out.cells
  go_wp2_with fail
  refine (HA2 _).out.mono ?_
  rintro r w2 ⟨rfl, hb⟩
  have hT := HT.out.below hb
  have HT2 := Lib.hid hT
  clear hT hb x0 x1 x2 x3 y0 y1 y2 y3
  clear HT
  have HT := HT2
  clear HT2
  obtain ⟨x0, x1, x2, x3, y0, y1, y2, y3⟩ := HT.out.cells
  go_wp2
  go_ret
  exact ⟨rfl, HT.out.bel⟩

set_option maxRecDepth 100000 in
set_option maxHeartbeats 12800000 in
theorem conflict_yes (x y : Ev) (lx ly : Nat) (w : World) (hlx : x.path.length = lx) (hly : y.path.length = ly) (ox : EvOk w w.heap.size x) (oy : EvOk w w.heap.size y) (hx9 : lx ≤ 1000000) (hy9 : ly ≤ 1000000) (ha : accB x.kind = true) (ha2 : accB y.kind = true) (ht : x.thread ≠ y.thread) (hi : x.id = y.id) :
    Calls Try.prog 40 #[.agg #[.int .u8 x.kind, .int .i64 x.thread, .int .i64 x.id, .slice x.pa lx x.pc], .agg #[.int .u8 y.kind, .int .i64 y.thread, .int .i64 y.id, .slice y.pa ly y.pc]] w fun r w' => r = .returned (.bool ((begB (plainP x) (plainP y) || begB (plainP y) (plainP x)) && (wrB x.kind || wrB y.kind) && (decide (x.kind ≠ 4) || decide (y.kind ≠ 4)))) ∧ Below w.heap.size w w' := by
  have HA := fun W => Lib.hid (access_any (k := x.kind) (t := x.thread) (i := x.id) (pa := x.pa) (pl := lx) (pc := x.pc) (w := W) true ha)
  have HA2 := fun W => Lib.hid (access_any (k := y.kind) (t := y.thread) (i := y.id) (pa := y.pa) (pl := ly) (pc := y.pc) (w := W) true ha2)
  have HT := Lib.hid (Two.start w x y lx ly)
  have e1 : (x.thread == y.thread) = false := by simpa using ht
  have e2 : (x.id != y.id) = false := by simpa using hi
  have HPX := Lib.hid (plain_rd ox)
  have HPY := Lib.hid (plain_rd oy)
  have HLX := Lib.hid hlx
  have HLY := Lib.hid hly
  obtain ⟨b1, hb1⟩ : ∃ b, begB (plainP x) (plainP y) = b := ⟨_, rfl⟩
  obtain ⟨b2, hb2⟩ : ∃ b, begB (plainP y) (plainP x) = b := ⟨_, rfl⟩
  obtain ⟨r1, hr1⟩ : ∃ b, wrB x.kind = b := ⟨_, rfl⟩
  obtain ⟨r2, hr2⟩ : ∃ b, wrB y.kind = b := ⟨_, rfl⟩
  obtain ⟨k1, hk1⟩ : ∃ b, (x.kind != 4) = b := ⟨_, rfl⟩
  obtain ⟨k2, hk2⟩ : ∃ b, (y.kind != 4) = b := ⟨_, rfl⟩
  have hres : ((begB (plainP x) (plainP y) || begB (plainP y) (plainP x)) && (wrB x.kind || wrB y.kind) && (decide (x.kind ≠ 4) || decide (y.kind ≠ 4))) = ((b1 || b2) && (r1 || r2) && (k1 || k2)) := by
    rw [hb1, hb2, hr1, hr2, ← hk1, ← hk2]
    congr 2
    · rw [Bool.eq_iff_iff]; simp
    · rw [Bool.eq_iff_iff]; simp
  rw [hres]
  have HC1 : ∀ W, Below w.heap.size w W → Hid (Calls Try.prog 47 #[.slice (plainA x) (plainP x).length (plainC x), .slice (plainA y) (plainP y).length (plainC y)] W fun r w' => r = .returned (.bool b1) ∧ ∃ n, w' = W.drewN n) := fun W hW => Lib.hid (by
    rw [← hb1]; exact begins_any _ _ _ _ _ _ w.heap.size _ _ W rfl rfl (HPX.out.1.below hW) (HPY.out.1.below hW) (by have := HPX.out.2.2; have := HLX.out; omega) HPY.out.2.1)
  have HC2 : ∀ W, Below w.heap.size w W → Hid (Calls Try.prog 47 #[.slice (plainA y) (plainP y).length (plainC y), .slice (plainA x) (plainP x).length (plainC x)] W fun r w' => r = .returned (.bool b2) ∧ ∃ n, w' = W.drewN n) := fun W hW => Lib.hid (by
    rw [← hb2]; exact begins_any _ _ _ _ _ _ w.heap.size _ _ W rfl rfl (HPY.out.1.below hW) (HPX.out.1.below hW) (by have := HPY.out.2.2; have := HLY.out; omega) HPX.out.2.1)
  have HW1 := fun W => Lib.hid (writes_any (k := x.kind) (t := x.thread) (i := x.id) (pa := x.pa) (pl := lx) (pc := x.pc) (w := W) r1 hr1)
  have HW2 := fun W => Lib.hid (writes_any (k := y.kind) (t := y.thread) (i := y.id) (pa := y.pa) (pl := ly) (pc := y.pc) (w := W) r2 hr2)
  clear ha ha2 ox oy hlx hly ht hi hres hb1 hb2 hr1 hr2
  go_enter Try.func40, Try.ntmps40
  go_wp2_with fail
  refine (HA _).out.mono ?_
  rintro r w1 ⟨rfl, hb⟩
  have hT := HT.out.below hb
  have HT2 := Lib.hid hT
  clear hT hb 
  clear HT
  have HT := HT2
  clear HT2
  obtain ⟨x0, x1, x2, x3, y0, y1, y2, y3⟩ := HT.out.cells
  go_wp2_with fail
  refine (HA2 _).out.mono ?_
  rintro r w2 ⟨rfl, hb⟩
  have hT := HT.out.below hb
  have HT2 := Lib.hid hT
  clear hT hb x0 x1 x2 x3 y0 y1 y2 y3
  clear HT
  have HT := HT2
  clear HT2
  obtain ⟨x0, x1, x2, x3, y0, y1, y2, y3⟩ := HT.out.cells
  go_wp2
  have hS0 := And.intro x0 (And.intro x1 (And.intro x2 (And.intro x3 (And.intro y0 (And.intro y1 (And.intro y2 (And.intro y3 (show Two8 w x y lx ly _ from HT.out.drew))))))))
  go_region_held3 (fun w' => w'.cell? ⟨w.heap.size, 0, none⟩ = some (.int .u8 x.kind) ∧ w'.cell? ⟨w.heap.size, 1, none⟩ = some (.int .i64 x.thread) ∧ w'.cell? ⟨w.heap.size, 2, none⟩ = some (.int .i64 x.id) ∧ w'.cell? ⟨w.heap.size, 3, none⟩ = some (.slice x.pa lx x.pc) ∧
    w'.cell? ⟨w.heap.size + 1, 0, none⟩ = some (.int .u8 y.kind) ∧ w'.cell? ⟨w.heap.size + 1, 1, none⟩ = some (.int .i64 y.thread) ∧ w'.cell? ⟨w.heap.size + 1, 2, none⟩ = some (.int .i64 y.id) ∧ w'.cell? ⟨w.heap.size + 1, 3, none⟩ = some (.slice y.pa ly y.pc) ∧ Two8 w x y lx ly w') (first | exact hS0 | assumption)
    (first
      | (go_at_call_of 45 (Value.agg #[.int .u8 x.kind, .int .i64 x.thread, .int .i64 x.id, .slice x.pa lx x.pc]); refine (plain_two x lx HLX.out (two_of (by assumption))).mono ?_; rintro r w2 ⟨rfl, hS1⟩)
      | (go_at_call_of 45 (Value.agg #[.int .u8 y.kind, .int .i64 y.thread, .int .i64 y.id, .slice y.pa ly y.pc]); refine (plain_two y ly HLY.out (two_of (by assumption))).mono ?_; rintro r w2 ⟨rfl, hS1⟩))
  all_goals
    have HT2 := Lib.hid (two_of hS1)
    clear hS0 hS1 x0 x1 x2 x3 y0 y1 y2 y3 HT
    have HT := HT2
    clear HT2
    obtain ⟨x0, x1, x2, x3, y0, y1, y2, y3⟩ := HT.out.cells

    go_wp2_with fail
    refine (HC1 _ HT.out.bel).out.mono ?_
    rintro r w3 ⟨rfl, nd, rfl⟩
    have HT2 := Lib.hid (HT.out.drewN nd)
    clear x0 x1 x2 x3 y0 y1 y2 y3 HT
    have HT := HT2
    clear HT2
    obtain ⟨x0, x1, x2, x3, y0, y1, y2, y3⟩ := HT.out.cells
    cases b1 with
    | true =>
      go_wp2_with fail
      refine (HW1 _).out.mono ?_
      rintro r w4 ⟨rfl, hb⟩
      have hT := HT.out.below hb
      have HT2 := Lib.hid hT
      clear hT hb x0 x1 x2 x3 y0 y1 y2 y3
      clear HT
      have HT := HT2
      clear HT2
      obtain ⟨x0, x1, x2, x3, y0, y1, y2, y3⟩ := HT.out.cells
      cases r1 with
      | true =>
        cases k1 with
        | true =>
          go_wp2
          go_ret
          exact ⟨rfl, HT.out.bel⟩
        | false =>
          cases k2
          all_goals
            go_wp2
            go_ret
            exact ⟨rfl, HT.out.bel⟩
      | false =>
        go_wp2_with fail
        refine (HW2 _).out.mono ?_
        rintro r w5 ⟨rfl, hb⟩
        have hT := HT.out.below hb
        have HT2 := Lib.hid hT
        clear hT hb x0 x1 x2 x3 y0 y1 y2 y3
        clear HT
        have HT := HT2
        clear HT2
        obtain ⟨x0, x1, x2, x3, y0, y1, y2, y3⟩ := HT.out.cells
        cases r2 with
        | true =>
          cases k1 with
          | true =>
            go_wp2
            go_ret
            exact ⟨rfl, HT.out.bel⟩
          | false =>
            cases k2
            all_goals
              go_wp2
              go_ret
              exact ⟨rfl, HT.out.bel⟩
        | false =>
          go_wp2
          go_ret
          exact ⟨rfl, HT.out.bel⟩
    | false =>
      go_wp2_with fail
      refine (HC2 _ HT.out.bel).out.mono ?_
      rintro r w3 ⟨rfl, nd2, rfl⟩
      have hTd := HT.out.drewN nd2
      rw [World.drewN_drewN] at hTd
      have HT2 := Lib.hid hTd
      clear hTd
      clear x0 x1 x2 x3 y0 y1 y2 y3 HT
      have HT := HT2
      clear HT2
      obtain ⟨x0, x1, x2, x3, y0, y1, y2, y3⟩ := HT.out.cells
      cases b2 with
      | true =>
        go_wp2_with fail
        refine (HW1 _).out.mono ?_
        rintro r w4 ⟨rfl, hb⟩
        have hT := HT.out.below hb
        have HT2 := Lib.hid hT
        clear hT hb x0 x1 x2 x3 y0 y1 y2 y3
        clear HT
        have HT := HT2
        clear HT2
        obtain ⟨x0, x1, x2, x3, y0, y1, y2, y3⟩ := HT.out.cells
        cases r1 with
        | true =>
          cases k1 with
          | true =>
            go_wp2
            go_ret
            exact ⟨rfl, HT.out.bel⟩
          | false =>
            cases k2
            all_goals
              go_wp2
              go_ret
              exact ⟨rfl, HT.out.bel⟩
        | false =>
          go_wp2_with fail
          refine (HW2 _).out.mono ?_
          rintro r w5 ⟨rfl, hb⟩
          have hT := HT.out.below hb
          have HT2 := Lib.hid hT
          clear hT hb x0 x1 x2 x3 y0 y1 y2 y3
          clear HT
          have HT := HT2
          clear HT2
          obtain ⟨x0, x1, x2, x3, y0, y1, y2, y3⟩ := HT.out.cells
          cases r2 with
          | true =>
            cases k1 with
            | true =>
              go_wp2
              go_ret
              exact ⟨rfl, HT.out.bel⟩
            | false =>
              cases k2
              all_goals
                go_wp2
                go_ret
                exact ⟨rfl, HT.out.bel⟩
          | false =>
            go_wp2
            go_ret
            exact ⟨rfl, HT.out.bel⟩
      | false =>
        go_wp2
        go_ret
        exact ⟨rfl, HT.out.bel⟩

theorem conflict_any (x y : Ev) (lx ly : Nat) (w : World) (hlx : x.path.length = lx) (hly : y.path.length = ly) (ox : EvOk w w.heap.size x) (oy : EvOk w w.heap.size y) (hx9 : lx ≤ 1000000) (hy9 : ly ≤ 1000000) :
    Calls Try.prog 40 #[.agg #[.int .u8 x.kind, .int .i64 x.thread, .int .i64 x.id, .slice x.pa lx x.pc], .agg #[.int .u8 y.kind, .int .i64 y.thread, .int .i64 y.id, .slice y.pa ly y.pc]] w fun r w' => r = .returned (.bool (confB x y)) ∧ Below w.heap.size w w' := by
  unfold confB
  cases ha : accB x.kind with
  | false => simpa using conflict_no1 x y lx ly w hlx hly ox oy hx9 hy9 ha
  | true =>
    cases ha2 : accB y.kind with
    | false => simpa using conflict_no2 x y lx ly w hlx hly ox oy hx9 hy9 ha ha2
    | true =>
      by_cases ht : x.thread = y.thread
      · simpa [ht] using conflict_no3 x y lx ly w hlx hly ox oy hx9 hy9 ha ha2 ht
      · by_cases hi : x.id = y.id
        · have := conflict_yes x y lx ly w hlx hly ox oy hx9 hy9 ha ha2 ht hi
          rw [decide_eq_true ht, decide_eq_true hi]
          simpa only [Bool.true_and] using this
        · have := conflict_no4 x y lx ly w hlx hly ox oy hx9 hy9 ha ha2 ht hi
          rw [decide_eq_true ht, decide_eq_false hi]
          simpa only [Bool.true_and, Bool.false_and] using this
end Go.Proofs.Ytpcjcmbhoglnfaa
