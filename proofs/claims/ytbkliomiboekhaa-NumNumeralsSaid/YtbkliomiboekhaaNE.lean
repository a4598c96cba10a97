/- Numbers: contracts of the document's six ways. -/
import Derived.Test.YtbkliomiboekhaaND
namespace Go.Proofs.Ytbkliomiboekhaa
open Go.RowKit
set_option linter.unusedVariables false

theorem w64 {a : Int} (h1 : -9223372036854775808 ≤ a) (h2 : a ≤ 9223372036854775807) : wrap64 a = a := by
  simp only [wrap64]; omega

set_option maxHeartbeats 400000 in
theorem refAdd_any : Six 12 (fun a b => numR (a + b)) (fun a b => errR (a + b)) := by
  intro a b w a1 a2 b1 b2
  simp only
  by_cases hb : 0 ≤ b
  · have d0 : decide (0 ≤ b) = true := decide_eq_true hb
    have d1 : decide (b < 0) = false := decide_eq_false (by omega)
    have e := w64 (a := 9223372036854775807 - b) (by omega) (by omega)
    cases hi : inR (a + b)
    · have d2 : decide (9223372036854775807 - b < a) = true := decide_eq_true (by rw [inR_no] at hi; omega)
      rw [numR_out hi, errR_out hi]
      clear a1 a2 b1 b2 hb hi
      go_enter Try.func12, Try.ntmps12
      go_wp2
      go_ret2
      exact ⟨rfl, Below.refl _ _⟩
    · have d2 : decide (9223372036854775807 - b < a) = false := decide_eq_false (by rw [inR_iff] at hi; omega)
      rw [numR_in hi, errR_in hi]
      have e2 := w64 (a := a + b) (by rw [inR_iff] at hi; omega) (by rw [inR_iff] at hi; omega)
      have E2 := Lib.hid e2
      clear a1 a2 b1 b2 hb hi e2
      go_enter Try.func12, Try.ntmps12
      go_wp2
      go_ret2
      exact ⟨ret2 E2.out rfl, Below.refl _ _⟩
  · have d0 : decide (0 ≤ b) = false := decide_eq_false hb
    have d1 : decide (b < 0) = true := decide_eq_true (by omega)
    have e := w64 (a := -9223372036854775808 - b) (by omega) (by omega)
    cases hi : inR (a + b)
    · have d2 : decide (a < -9223372036854775808 - b) = true := decide_eq_true (by rw [inR_no] at hi; omega)
      rw [numR_out hi, errR_out hi]
      clear a1 a2 b1 b2 hb hi
      go_enter Try.func12, Try.ntmps12
      go_wp2
      go_ret2
      exact ⟨rfl, Below.refl _ _⟩
    · have d2 : decide (a < -9223372036854775808 - b) = false := decide_eq_false (by rw [inR_iff] at hi; omega)
      rw [numR_in hi, errR_in hi]
      have e2 := w64 (a := a + b) (by rw [inR_iff] at hi; omega) (by rw [inR_iff] at hi; omega)
      have E2 := Lib.hid e2
      clear a1 a2 b1 b2 hb hi e2
      go_enter Try.func12, Try.ntmps12
      go_wp2
      go_ret2
      exact ⟨ret2 E2.out rfl, Below.refl _ _⟩

set_option maxHeartbeats 400000 in
theorem refSub_any : Six 14 (fun a b => numR (a - b)) (fun a b => errR (a - b)) := by
  intro a b w a1 a2 b1 b2
  simp only
  by_cases hb : 0 ≤ b
  · have d0 : decide (0 ≤ b) = true := decide_eq_true hb
    have d1 : decide (b < 0) = false := decide_eq_false (by omega)
    have e := w64 (a := -9223372036854775808 + b) (by omega) (by omega)
    cases hi : inR (a - b)
    · have d2 : decide (a < -9223372036854775808 + b) = true := decide_eq_true (by rw [inR_no] at hi; omega)
      rw [numR_out hi, errR_out hi]
      clear a1 a2 b1 b2 hb hi
      go_enter Try.func14, Try.ntmps14
      go_wp2
      go_ret2
      exact ⟨rfl, Below.refl _ _⟩
    · have d2 : decide (a < -9223372036854775808 + b) = false := decide_eq_false (by rw [inR_iff] at hi; omega)
      rw [numR_in hi, errR_in hi]
      have e2 := w64 (a := a - b) (by rw [inR_iff] at hi; omega) (by rw [inR_iff] at hi; omega)
      have E2 := Lib.hid e2
      clear a1 a2 b1 b2 hb hi e2
      go_enter Try.func14, Try.ntmps14
      go_wp2
      go_ret2
      exact ⟨ret2 E2.out rfl, Below.refl _ _⟩
  · have d0 : decide (0 ≤ b) = false := decide_eq_false hb
    have d1 : decide (b < 0) = true := decide_eq_true (by omega)
    have e := w64 (a := 9223372036854775807 + b) (by omega) (by omega)
    cases hi : inR (a - b)
    · have d2 : decide (9223372036854775807 + b < a) = true := decide_eq_true (by rw [inR_no] at hi; omega)
      rw [numR_out hi, errR_out hi]
      clear a1 a2 b1 b2 hb hi
      go_enter Try.func14, Try.ntmps14
      go_wp2
      go_ret2
      exact ⟨rfl, Below.refl _ _⟩
    · have d2 : decide (9223372036854775807 + b < a) = false := decide_eq_false (by rw [inR_iff] at hi; omega)
      rw [numR_in hi, errR_in hi]
      have e2 := w64 (a := a - b) (by rw [inR_iff] at hi; omega) (by rw [inR_iff] at hi; omega)
      have E2 := Lib.hid e2
      clear a1 a2 b1 b2 hb hi e2
      go_enter Try.func14, Try.ntmps14
      go_wp2
      go_ret2
      exact ⟨ret2 E2.out rfl, Below.refl _ _⟩
theorem refNeg_any (a : Int) (w : World) (a1 : -9223372036854775808 ≤ a) (a2 : a ≤ 9223372036854775807) : Calls Try.prog 22 #[.int .i64 a] w (Told (numR (-a)) (errR (-a)) w) := by
  have H := refSub_any 0 a w (by omega) (by omega) a1 a2
  simp only [Int.zero_sub] at H
  have H2 := Lib.hid H
  clear H a1 a2
  go_enter Try.func22, Try.ntmps22
  go_wp2_with fail
  refine H2.out.mono ?_
  rintro r w1 ⟨rfl, hb1⟩
  have HB := Lib.hid hb1
  clear hb1
  go_wp2
  go_ret2
  exact ⟨rfl, HB.out⟩

/-! ### Mul -/
theorem ret1 {k : IntKind} {a b : Int} (h : a = b) : Ending.returned (.int k a) = .returned (.int k b) := by rw [h]
def low (a : Int) : Int := if 0 < a then -a else a
theorem below_any (a : Int) (w : World) (a1 : -9223372036854775808 ≤ a) (a2 : a ≤ 9223372036854775807) : Calls Try.prog 34 #[.int .i64 a] w fun r w' => r = .returned (.int .i64 (low a)) ∧ w = w' := by
  by_cases h : 0 < a
  · have d : decide (0 < a) = true := decide_eq_true h
    have e := w64 (a := -a) (by omega) (by omega)
    have hl : low a = -a := if_pos h
    rw [hl]
    have E := Lib.hid e
    clear a1 a2 h hl e
    go_enter Try.func34, Try.ntmps34
    go_wp2
    go_ret
    exact ⟨ret1 E.out, rfl⟩
  · have d : decide (0 < a) = false := decide_eq_false h
    have hl : low a = a := if_neg h
    rw [hl]
    clear a1 a2 h hl
    go_enter Try.func34, Try.ntmps34
    go_wp2
    go_ret
    exact ⟨rfl, rfl⟩
theorem mul_low (a b : Int) : a * b = if decide (a < 0) = decide (b < 0) then low a * low b else low a * (- low b) := by
  unfold low
  by_cases ha : 0 < a <;> by_cases hb : 0 < b
  · have h1 : decide (a < 0) = false := decide_eq_false (by omega)
    have h2 : decide (b < 0) = false := decide_eq_false (by omega)
    rw [if_pos ha, if_pos hb, h1, h2, if_pos rfl, Int.neg_mul_neg]
  · rcases Int.lt_or_eq_of_le (Int.not_lt.1 hb) with h | h
    · have h1 : decide (a < 0) = false := decide_eq_false (by omega)
      have h2 : decide (b < 0) = true := decide_eq_true h
      rw [if_pos ha, if_neg hb, h1, h2, if_neg (by decide), Int.neg_mul_neg]
    · subst h; simp
  · rcases Int.lt_or_eq_of_le (Int.not_lt.1 ha) with h | h
    · have h1 : decide (a < 0) = true := decide_eq_true h
      have h2 : decide (b < 0) = false := decide_eq_false (by omega)
      rw [if_neg ha, if_pos hb, h1, h2, if_neg (by decide), Int.neg_neg]
    · subst h; simp
  · rcases Int.lt_or_eq_of_le (Int.not_lt.1 ha) with h | h
    · rcases Int.lt_or_eq_of_le (Int.not_lt.1 hb) with h' | h'
      · have h1 : decide (a < 0) = true := decide_eq_true h
        have h2 : decide (b < 0) = true := decide_eq_true h'
        rw [if_neg ha, if_neg hb, h1, h2, if_pos rfl]
      · subst h'; simp
    · subst h; simp
/-- the quotient that the document asks of -/
theorem over_div {x y k : Int} (hx : x ≤ 0) (hy : y < 0) (hk : 0 ≤ k) : (x < k.tdiv y) ↔ k < x * y := by
  have e : k.tdiv y = -(k / (-y)) := by
    have : y = -(-y) := by omega
    rw [this, Int.tdiv_neg, Int.tdiv_eq_ediv_of_nonneg hk]; simp
  rw [e]
  have h : (k / (-y) < -x) ↔ k < (-x) * (-y) := Int.ediv_lt_iff_lt_mul (by omega)
  have e2 : (-x) * (-y) = x * y := by rw [Int.neg_mul_neg]
  rw [e2] at h
  omega
theorem over_div_low {x y k : Int} (hx : x ≤ 0) (hy : y < 0) (hk : 0 ≤ k) : (x < (-k).tdiv (-y)) ↔ x * (-y) < -k := by
  have := over_div hx hy hk
  rw [Int.neg_tdiv, Int.tdiv_neg, Int.mul_neg]
  simp only [Int.neg_neg]
  omega

def MulP (a b : Int) (w : World) (r : Ending) (w' : World) : Prop := r = .returned (.tuple #[.int .i64 (numR (a * b)), .int .i64 (errR (a * b))]) ∧ w = w'
set_option maxHeartbeats 1000000 in
theorem refMul_same (a b : Int) (w : World) (a1 : -9223372036854775808 ≤ a) (a2 : a ≤ 9223372036854775807) (b1 : -9223372036854775808 ≤ b) (b2 : b ≤ 9223372036854775807)
    (a0 : a ≠ 0) (b0 : b ≠ 0) (hs : decide (a < 0) = decide (b < 0)) : Calls Try.prog 16 #[.int .i64 a, .int .i64 b] w (MulP a b w) := by
  have hxy : a * b = low a * low b := by rw [mul_low, if_pos hs]
  have hA := fun w => below_any a w a1 a2
  have hB := fun w => below_any b w b1 b2
  have hx : low a < 0 ∧ -9223372036854775808 ≤ low a := by unfold low; split <;> omega
  have hy : low b < 0 ∧ -9223372036854775808 ≤ low b := by unfold low; split <;> omega
  unfold MulP
  rw [hxy]
  clear hxy
  have ha0 : (a == 0) = false := by rw [beq_eq_false_iff_ne]; exact a0
  have hb0 : (b == 0) = false := by rw [beq_eq_false_iff_ne]; exact b0
  obtain ⟨x, hx'⟩ : ∃ x, x = low a := ⟨_, rfl⟩
  obtain ⟨y, hy'⟩ : ∃ y, y = low b := ⟨_, rfl⟩
  simp only [← hx', ← hy'] at hA hB hx hy ⊢
  clear hx' hy'
  obtain ⟨q, hq⟩ : ∃ q, q = (9223372036854775807 : Int).tdiv y := ⟨_, rfl⟩
  have hod := over_div (k := 9223372036854775807) (Int.le_of_lt hx.1) hy.1 (by omega)
  have hq1 : -9223372036854775807 ≤ q ∧ q ≤ 0 := by
    have e : (9223372036854775807 : Int).tdiv y = -(9223372036854775807 / (-y)) := by
      have e1 : y = -(-y) := by omega
      rw [e1, Int.tdiv_neg, Int.tdiv_eq_ediv_of_nonneg (by omega)]; simp
    have h1 : 9223372036854775807 / (-y) ≤ 9223372036854775807 := Int.ediv_le_self _ (by omega)
    have h2 : 0 ≤ 9223372036854775807 / (-y) := Int.ediv_nonneg (by omega) (by omega)
    omega
  have hw := w64 (a := q) (by omega) (by omega)
  rw [← hq] at hod
  have hyn : (y == 0) = false := by rw [beq_eq_false_iff_ne]; omega
  have hyn' : (y = 0) = False := eq_false (by omega)
  have hp : 0 < x * y := Int.mul_pos_of_neg_of_neg hx.1 hy.1
  obtain ⟨sa, hsa⟩ : ∃ sa, decide (a < 0) = sa := ⟨_, rfl⟩
  have hsb : decide (b < 0) = sa := by rw [← hs, hsa]
  obtain ⟨p, hpp⟩ : ∃ p, p = x * y := ⟨_, rfl⟩
  cases hi : inR (x * y)
  · have hd : decide (x < q) = true := decide_eq_true (hod.2 (by rw [inR_no] at hi; omega))
    rw [numR_out hi, errR_out hi]
    have HA := Lib.hid hA
    have HB := Lib.hid hB
    clear hA hB hx hy hod hq1 hi hs a1 a2 b1 b2 a0 b0 hp hpp
    have hq2 := hq.symm
    clear hq
    go_enter Try.func16, Try.ntmps16
    cases sa
    all_goals
      go_wp2_with fail
      refine (HA.out _).mono ?_
      rintro r w1 ⟨rfl, rfl⟩
      go_wp2_with fail
      refine (HB.out _).mono ?_
      rintro r w1 ⟨rfl, rfl⟩
      go_wp2
      go_ret2
      exact ⟨rfl, rfl⟩
  · have hd : decide (x < q) = false := decide_eq_false (fun h => by have := hod.1 h; rw [inR_iff] at hi; omega)
    rw [numR_in hi, errR_in hi]
    have HA := Lib.hid hA
    have HB := Lib.hid hB
    have E := Lib.hid (w64 (a := x * y) (by rw [inR_iff] at hi; omega) (by rw [inR_iff] at hi; omega))
    clear hA hB hx hy hod hq1 hi hs a1 a2 b1 b2 a0 b0 hp hpp
    have hq2 := hq.symm
    clear hq
    go_enter Try.func16, Try.ntmps16
    cases sa
    all_goals
      go_wp2_with fail
      refine (HA.out _).mono ?_
      rintro r w1 ⟨rfl, rfl⟩
      go_wp2_with fail
      refine (HB.out _).mono ?_
      rintro r w1 ⟨rfl, rfl⟩
      go_wp2
      go_ret2
      exact ⟨ret2 E.out rfl, rfl⟩
end Go.Proofs.Ytbkliomiboekhaa
