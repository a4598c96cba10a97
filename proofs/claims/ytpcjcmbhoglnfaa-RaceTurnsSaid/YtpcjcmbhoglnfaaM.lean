/- Race: the contract of touches. -/
import Derived.Test.YtpcjcmbhoglnfaaL
namespace Go.Proofs.Ytpcjcmbhoglnfaa
open Go.RowKit
set_option linter.unusedVariables false
set_option linter.unusedSimpArgs false

/-- the two events, each in a box, and both in a row -/
structure TW (w : World) (x y : Ev) (lx ly : Nat) (W : World) : Prop where
  two : Two w x y lx ly W
  r0 : W.cell? ⟨w.heap.size + 1 + 1, 0, none⟩ = some (.int .u8 x.kind)
  r1 : W.cell? ⟨w.heap.size + 1 + 1, 4, none⟩ = some (.int .u8 y.kind)
def twW (w : World) (x y : Ev) (lx ly : Nat) : World := ((w.alloc (.cells #[.int .u8 x.kind, .int .i64 x.thread, .int .i64 x.id, .slice x.pa lx x.pc] 26)).alloc (.cells #[.int .u8 y.kind, .int .i64 y.thread, .int .i64 y.id, .slice y.pa ly y.pc] 26)).alloc
  (.cells #[.int .u8 x.kind, .int .i64 x.thread, .int .i64 x.id, .slice x.pa lx x.pc, .int .u8 y.kind, .int .i64 y.thread, .int .i64 y.id, .slice y.pa ly y.pc] 26)
theorem tw_start (w : World) (x y : Ev) (lx ly : Nat) : TW w x y lx ly (twW w x y lx ly) := by
  have h := (Two.start w x y lx ly).below ((Below.refl _ _).alloc (Nat.le_refl _) (.cells #[.int .u8 x.kind, .int .i64 x.thread, .int .i64 x.id, .slice x.pa lx x.pc, .int .u8 y.kind, .int .i64 y.thread, .int .i64 y.id, .slice y.pa ly y.pc] 26))
  have hb := blk2 w 26 #[.int .u8 x.kind, .int .i64 x.thread, .int .i64 x.id, .slice x.pa lx x.pc, .int .u8 y.kind, .int .i64 y.thread, .int .i64 y.id, .slice y.pa ly y.pc] (.cells (evA x lx) 26) (.cells (evA y ly) 26)
  exact ⟨h, hb.cell 0, hb.cell 4⟩
def KindsR (x y : Ev) (a b : Value) (k : Nat) : Prop :=
  (k = 0 ∧ a = .bool false ∧ b = .bool false) ∨ (k = 1 ∧ a = .bool (wrB x.kind) ∧ b = .bool (decide (x.kind ≠ 4)) ∧ accB x.kind = true) ∨
  (k = 2 ∧ a = .bool (wrB x.kind || wrB y.kind) ∧ b = .bool (decide (x.kind ≠ 4) || decide (y.kind ≠ 4)) ∧ accB x.kind = true ∧ accB y.kind = true)
theorem acc_no {k : Int} (h1 : k ≠ 1) (h2 : k ≠ 2) (h3 : k ≠ 3) (h4 : k ≠ 4) : accB k = false := by simp [accB, h1, h2, h3, h4]
theorem agree_no {P Q : List Int} {m : Nat} {a b : Int} (h1 : P[m]? = some a) (h2 : Q[m]? = some b) (hab : a ≠ b) : agreeB P Q = false := by
  rw [Bool.eq_false_iff]
  intro h
  unfold agreeB at h
  have l1 := (List.getElem?_eq_some_iff.1 h1).1
  have l2 := (List.getElem?_eq_some_iff.1 h2).1
  have := List.all_eq_true.1 h m (List.mem_range.2 (by omega))
  rw [decide_eq_true_iff, List.getD_eq_getElem?_getD, List.getD_eq_getElem?_getD, h1, h2] at this
  exact hab this
theorem agree_yes {P Q : List Int} (h : ∀ j : Nat, j < min P.length Q.length → P.getD j 0 = Q.getD j 0) : agreeB P Q = true := by
  unfold agreeB
  exact List.all_eq_true.2 fun j hj => decide_eq_true (h j (List.mem_range.1 hj))

set_option maxRecDepth 100000 in
set_option maxHeartbeats 12800000 in
theorem touches_any (x y : Ev) (lx ly : Nat) (w : World) (hlx : x.path.length = lx) (hly : y.path.length = ly) (ox : EvOk w w.heap.size x) (oy : EvOk w w.heap.size y) (hx9 : lx ≤ 1000000) (hy9 : ly ≤ 1000000) :
    Calls Try.prog 15 #[.agg #[.int .u8 x.kind, .int .i64 x.thread, .int .i64 x.id, .slice x.pa lx x.pc], .agg #[.int .u8 y.kind, .int .i64 y.thread, .int .i64 y.id, .slice y.pa ly y.pc]] w fun r w' => r = .returned (.bool (tchB x y)) ∧ Below w.heap.size w w' := by
  have HLX := Lib.hid hlx
  have HLY := Lib.hid hly
  have HRX := Lib.hid ox.rd
  have HRY := Lib.hid oy.rd
  clear hlx hly ox oy
  go_enter Try.func15, Try.ntmps15
  go_wp2
  obtain ⟨W, hW⟩ : ∃ W, W = twW w x y lx ly := ⟨_, rfl⟩
  have hT := tw_start w x y lx ly
  rw [← hW] at hT
  unfold twW at hW
  rw [← hW]
  have HT := Lib.hid hT
  have r0 := hT.r0
  have r1 := hT.r1
  clear hW hT
  go_loop [6, 7, 8] (fun a b i => ∃ k : Nat, k ≤ 2 ∧ i = .int .i64 k ∧ KindsR x y a b k) (fun _ _ i => 2 - (intOf i).toNat)
  case atStart => exact ⟨0, by omega, rfl, .inl ⟨rfl, rfl, rfl⟩⟩
  case round =>
    obtain ⟨k, hk, rfl, hK⟩ := hrel
    rcases hK with ⟨rfl, rfl, rfl⟩ | ⟨rfl, rfl, rfl, hax⟩ | ⟨rfl, rfl, rfl, hax, hay⟩
    · clear r1
      by_cases q1 : x.kind = 1
      · have hf : KindsR x y (.bool false) (.bool true) 1 := .inr (.inl ⟨rfl, by rw [q1]; rfl, by rw [q1]; rfl, by rw [q1]; rfl⟩)
        rw [q1] at r0
        have HF := Lib.hid hf
        clear hf q1
        go_wp2
        go_round
        case rel => exact ⟨1, by omega, by go_num, HF.out⟩
        case measure => simp [intOf]
      by_cases q2 : x.kind = 2
      · have hf : KindsR x y (.bool true) (.bool true) 1 := .inr (.inl ⟨rfl, by rw [q2]; rfl, by rw [q2]; rfl, by rw [q2]; rfl⟩)
        rw [q2] at r0
        have HF := Lib.hid hf
        clear hf q2
        go_wp2
        go_round
        case rel => exact ⟨1, by omega, by go_num, HF.out⟩
        case measure => simp [intOf]
      by_cases q3 : x.kind = 3
      · have hf : KindsR x y (.bool true) (.bool true) 1 := .inr (.inl ⟨rfl, by rw [q3]; rfl, by rw [q3]; rfl, by rw [q3]; rfl⟩)
        rw [q3] at r0
        have HF := Lib.hid hf
        clear hf q3
        go_wp2
        go_round
        case rel => exact ⟨1, by omega, by go_num, HF.out⟩
        case measure => simp [intOf]
      by_cases q4 : x.kind = 4
      · have hf : KindsR x y (.bool false) (.bool false) 1 := .inr (.inl ⟨rfl, by rw [q4]; rfl, by rw [q4]; rfl, by rw [q4]; rfl⟩)
        rw [q4] at r0
        have HF := Lib.hid hf
        clear hf q4
        go_wp2
        go_round
        case rel => exact ⟨1, by omega, by go_num, HF.out⟩
        case measure => simp [intOf]
      have hz : tchB x y = false := by unfold tchB; rw [acc_no q1 q2 q3 q4]; simp
      have HZ := Lib.hid hz
      have e1 : (x.kind != 1) = true := by simpa using q1
      have e2 : (x.kind != 2) = true := by simpa using q2
      have e3 : (x.kind != 3) = true := by simpa using q3
      have e4 : (x.kind != 4) = true := by simpa using q4
      clear hz q1 q2 q3 q4
      go_wp2
      go_ret
      exact ⟨by rw [HZ.out]; rfl, HT.out.two.bel⟩
    · clear r0
      obtain ⟨b1, hb1⟩ : ∃ b, wrB x.kind = b := ⟨_, rfl⟩
      obtain ⟨p1, hp1⟩ : ∃ b, decide (x.kind ≠ 4) = b := ⟨_, rfl⟩
      rw [hb1, hp1]
      have HB1 := Lib.hid hb1
      have HP1 := Lib.hid hp1
      have HAX := Lib.hid hax
      clear hb1 hp1 hax
      by_cases q1 : y.kind = 1
      · have hf : KindsR x y (.bool (b1 || false)) (.bool (p1 || true)) 2 := .inr (.inr ⟨rfl, by rw [HB1.out, q1]; rfl, by rw [HP1.out, q1]; rfl, HAX.out, by rw [q1]; rfl⟩)
        rw [q1] at r1
        have HF := Lib.hid hf
        clear hf q1
        cases b1 <;> cases p1
        all_goals
          go_wp2
          go_round
          case rel => exact ⟨2, by omega, by go_num, HF.out⟩
          case measure => simp [intOf]
      by_cases q2 : y.kind = 2
      · have hf : KindsR x y (.bool (b1 || true)) (.bool (p1 || true)) 2 := .inr (.inr ⟨rfl, by rw [HB1.out, q2]; rfl, by rw [HP1.out, q2]; rfl, HAX.out, by rw [q2]; rfl⟩)
        rw [q2] at r1
        have HF := Lib.hid hf
        clear hf q2
        cases b1 <;> cases p1
        all_goals
          go_wp2
          go_round
          case rel => exact ⟨2, by omega, by go_num, HF.out⟩
          case measure => simp [intOf]
      by_cases q3 : y.kind = 3
      · have hf : KindsR x y (.bool (b1 || true)) (.bool (p1 || true)) 2 := .inr (.inr ⟨rfl, by rw [HB1.out, q3]; rfl, by rw [HP1.out, q3]; rfl, HAX.out, by rw [q3]; rfl⟩)
        rw [q3] at r1
        have HF := Lib.hid hf
        clear hf q3
        cases b1 <;> cases p1
        all_goals
          go_wp2
          go_round
          case rel => exact ⟨2, by omega, by go_num, HF.out⟩
          case measure => simp [intOf]
      by_cases q4 : y.kind = 4
      · have hf : KindsR x y (.bool (b1 || false)) (.bool (p1 || false)) 2 := .inr (.inr ⟨rfl, by rw [HB1.out, q4]; rfl, by rw [HP1.out, q4]; rfl, HAX.out, by rw [q4]; rfl⟩)
        rw [q4] at r1
        have HF := Lib.hid hf
        clear hf q4
        cases b1 <;> cases p1
        all_goals
          go_wp2
          go_round
          case rel => exact ⟨2, by omega, by go_num, HF.out⟩
          case measure => simp [intOf]
      have hz : tchB x y = false := by unfold tchB; rw [acc_no q1 q2 q3 q4]; simp
      have HZ := Lib.hid hz
      have e1 : (y.kind != 1) = true := by simpa using q1
      have e2 : (y.kind != 2) = true := by simpa using q2
      have e3 : (y.kind != 3) = true := by simpa using q3
      have e4 : (y.kind != 4) = true := by simpa using q4
      clear hz q1 q2 q3 q4
      go_wp2
      go_ret
      exact ⟨by rw [HZ.out]; rfl, HT.out.two.bel⟩
    · obtain ⟨b1, hb1⟩ : ∃ b, (wrB x.kind || wrB y.kind) = b := ⟨_, rfl⟩
      obtain ⟨p1, hp1⟩ : ∃ b, (decide (x.kind ≠ 4) || decide (y.kind ≠ 4)) = b := ⟨_, rfl⟩
      rw [hb1, hp1]
      have hres : tchB x y = (agreeB x.path y.path && decide (x.thread ≠ y.thread) && decide (x.id = y.id) && b1 && p1) := by
        unfold tchB; rw [hax, hay, hb1, hp1]; simp
      have HRES := Lib.hid hres
      obtain ⟨x0, x1, x2, x3, y0, y1, y2, y3⟩ := HT.out.two.cells
      clear hb1 hp1 hax hay hres r0 r1
      go_wp2
      go_loopw [10] (fun j wr => ∃ m : Nat, m ≤ lx ∧ m ≤ ly ∧ j = .int .i64 m ∧ (∀ q : Nat, q < m → x.path.getD q 0 = y.path.getD q 0) ∧ ∃ n, wr = W.drewN n) (fun j _ => lx - (intOf j).toNat)
      case atStart => exact ⟨0, by omega, by omega, rfl, fun q hq => by omega, 0, rfl⟩
      case round =>
        obtain ⟨m, hm1, hm2, rfl, hall, nd, rfl⟩ := hrel
        have HALL := Lib.hid hall
        clear hall
        by_cases h12 : m < lx ∧ m < ly
        · obtain ⟨h1, h2⟩ := h12
          have rx := (HRX.out.below HT.out.two.bel).drewN nd
          have ry := (HRY.out.below HT.out.two.bel).drewN nd
          obtain ⟨b, off, u, hu, ea, hb, hc⟩ := rx.int (k := m) (by rw [HLX.out]; exact h1)
          obtain ⟨b', off', v, hv, ea', hb', hc'⟩ := ry.int (k := m) (by rw [HLY.out]; exact h2)
          rw [ea] at x3
          rw [ea'] at y3
          have i1 : (m : Int) < (lx : Int) := by omega
          have i2 : (m : Int) < (ly : Int) := by omega
          have i0 : (0 : Int) ≤ (m : Int) := by omega
          have HU := Lib.hid hu
          have HV := Lib.hid hv
          clear ea ea' rx ry hu hv
          have hcW : W.cell? ⟨b, off + m, none⟩ = some (.int .i64 u) := hc
          have hcW' : W.cell? ⟨b', off' + m, none⟩ = some (.int .i64 v) := hc'
          by_cases huv : u = v
          · subst huv
            have bn : (u != u) = false := by simp
            have hnx : ∀ q : Nat, q < m + 1 → x.path.getD q 0 = y.path.getD q 0 := by
              intro q hq
              rcases Nat.lt_or_ge q m with h | h
              · exact HALL.out q h
              · obtain rfl : q = m := by omega
                rw [List.getD_eq_getElem?_getD, List.getD_eq_getElem?_getD, HU.out, HV.out]
            have HNX := Lib.hid hnx
            clear hnx
            go_wp2
            go_quiet (fail)
            go_wp2
            go_roundw
            case rel => exact ⟨m + 1, by omega, by omega, by go_num, HNX.out, _, rfl⟩
            case measure => simp [intOf] <;> omega
          · have bn : (u != v) = true := by simpa using huv
            have hz : tchB x y = false := by rw [HRES.out, agree_no HU.out HV.out huv]; simp
            have HZ := Lib.hid hz
            clear hz huv
            go_wp2
            go_quiet (fail)
            go_wp2
            go_ret
            exact ⟨by rw [HZ.out]; rfl, below_drewN (below_drewN HT.out.two.bel nd) _⟩
        · have hag : agreeB x.path y.path = true := agree_yes fun q hq => HALL.out q (by rw [HLX.out, HLY.out] at hq; omega)
          have hres : tchB x y = (decide (x.thread ≠ y.thread) && decide (x.id = y.id) && b1 && p1) := by rw [HRES.out, hag]; simp
          have HR2 := Lib.hid hres
          have i12 : lx ≤ m ∨ (m < lx ∧ ly ≤ m) := by omega
          clear hag hres h12
          rcases i12 with i12 | ⟨i12, i13⟩
          · have d1 : decide (m < lx) = false := by simp; omega
            clear i12
            by_cases ht : x.thread = y.thread
            · have e1 : (x.thread != y.thread) = false := by simpa using ht
              have hz : tchB x y = false := by rw [HR2.out]; simp [ht]
              have HZ := Lib.hid hz
              clear ht hz
              go_wp2
              go_ret
              exact ⟨by rw [HZ.out]; rfl, below_drewN HT.out.two.bel _⟩
            have e1 : (x.thread != y.thread) = true := by simpa using ht
            by_cases hi : x.id = y.id
            · have e2 : (x.id == y.id) = true := by simpa using hi
              have hz : tchB x y = (b1 && p1) := by rw [HR2.out]; simp [ht, hi]
              have HZ := Lib.hid hz
              clear ht hi hz
              cases b1 <;> cases p1
              all_goals
                go_wp2
                go_ret
                exact ⟨by rw [HZ.out]; rfl, below_drewN HT.out.two.bel _⟩
            · have e2 : (x.id == y.id) = false := by simpa using hi
              have hz : tchB x y = false := by rw [HR2.out]; simp [hi]
              have HZ := Lib.hid hz
              clear ht hi hz
              go_wp2
              go_ret
              exact ⟨by rw [HZ.out]; rfl, below_drewN HT.out.two.bel _⟩
          · have d1 : decide (m < lx) = true := by simpa using i12
            have d2 : decide (m < ly) = false := by simp; omega
            clear i13
            by_cases ht : x.thread = y.thread
            · have e1 : (x.thread != y.thread) = false := by simpa using ht
              have hz : tchB x y = false := by rw [HR2.out]; simp [ht]
              have HZ := Lib.hid hz
              clear ht hz
              go_wp2
              go_ret
              exact ⟨by rw [HZ.out]; rfl, below_drewN HT.out.two.bel _⟩
            have e1 : (x.thread != y.thread) = true := by simpa using ht
            by_cases hi : x.id = y.id
            · have e2 : (x.id == y.id) = true := by simpa using hi
              have hz : tchB x y = (b1 && p1) := by rw [HR2.out]; simp [ht, hi]
              have HZ := Lib.hid hz
              clear ht hi hz
              cases b1 <;> cases p1
              all_goals
                go_wp2
                go_ret
                exact ⟨by rw [HZ.out]; rfl, below_drewN HT.out.two.bel _⟩
            · have e2 : (x.id == y.id) = false := by simpa using hi
              have hz : tchB x y = false := by rw [HR2.out]; simp [hi]
              have HZ := Lib.hid hz
              clear ht hi hz
              go_wp2
              go_ret
              exact ⟨by rw [HZ.out]; rfl, below_drewN HT.out.two.bel _⟩
end Go.Proofs.Ytpcjcmbhoglnfaa
