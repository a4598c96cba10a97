/- Numbers: contracts of the document's Mul, Div, Mod. -/
import Derived.Test.YtbkliomiboekhaaNE
namespace Go.Proofs.Ytbkliomiboekhaa
open Go.RowKit
set_option linter.unusedVariables false

set_option maxHeartbeats 1000000 in
theorem refMul_diff (a b : Int) (w : World) (a1 : -9223372036854775808 ≤ a) (a2 : a ≤ 9223372036854775807) (b1 : -9223372036854775808 ≤ b) (b2 : b ≤ 9223372036854775807)
    (a0 : a ≠ 0) (b0 : b ≠ 0) (hs : decide (a < 0) = !decide (b < 0)) : Calls Try.prog 16 #[.int .i64 a, .int .i64 b] w (MulP a b w) := by
  have hxy : a * b = low a * (-low b) := by rw [mul_low, if_neg (by rw [hs]; cases decide (b < 0) <;> simp)]
  have hA := fun w => below_any a w a1 a2
  have hB := fun w => below_any b w b1 b2
  have hx : low a < 0 ∧ -9223372036854775808 ≤ low a := by unfold low; split <;> omega
  have hy : low b < 0 ∧ -9223372036854775808 ≤ low b := by unfold low; split <;> omega
  unfold MulP
  rw [hxy]
  clear hxy
  have ha0 : (a == 0) = false := by rw [beq_eq_false_iff_ne]; exact a0
  have hb0 : (b == 0) = false := by rw [beq_eq_false_iff_ne]; exact b0
  obtain ⟨x, hx'⟩ : ∃ x, x = low a := ⟨_, rfl⟩
  obtain ⟨y, hy'⟩ : ∃ y, y = low b := ⟨_, rfl⟩
  simp only [← hx', ← hy'] at hA hB hx hy ⊢
  clear hx' hy'
  obtain ⟨sb, hsb⟩ : ∃ sb, decide (b < 0) = sb := ⟨_, rfl⟩
  have hsa : decide (a < 0) = !sb := by rw [hs, hsb]
  have HA := Lib.hid hA
  have HB := Lib.hid hB
  clear hA hB hs a1 a2 b1 b2 a0 b0
  by_cases hy0 : y = -9223372036854775808
  · subst hy0
    by_cases hx1 : x = -1
    · subst hx1
      have e1 : numR (-1 * -(-9223372036854775808)) = -9223372036854775808 := by decide
      have e2 : errR (-1 * -(-9223372036854775808)) = 0 := by decide
      rw [e1, e2]
      clear hx hy e1 e2
      go_enter Try.func16, Try.ntmps16
      cases sb
      all_goals
        go_wp2_with fail
        refine (HA.out _).mono ?_
        rintro r w1 ⟨rfl, rfl⟩
        go_wp2_with fail
        refine (HB.out _).mono ?_
        rintro r w1 ⟨rfl, rfl⟩
        go_wp2
        go_ret2
        exact ⟨rfl, rfl⟩
    · have hi : inR (x * -(-9223372036854775808)) = false := by rw [inR_no]; omega
      have hd : (x != -1) = true := by rw [bne_iff_ne]; exact hx1
      rw [numR_out hi, errR_out hi]
      clear hx hy hi hx1
      go_enter Try.func16, Try.ntmps16
      cases sb
      all_goals
        go_wp2_with fail
        refine (HA.out _).mono ?_
        rintro r w1 ⟨rfl, rfl⟩
        go_wp2_with fail
        refine (HB.out _).mono ?_
        rintro r w1 ⟨rfl, rfl⟩
        go_wp2
        go_ret2
        exact ⟨rfl, rfl⟩
  · have hyL : (y == -9223372036854775808) = false := by rw [beq_eq_false_iff_ne]; exact hy0
    have hod := over_div_low (k := 9223372036854775808) (Int.le_of_lt hx.1) hy.1 (by omega)
    obtain ⟨z, hz⟩ : ∃ z, z = -y := ⟨_, rfl⟩
    have hz1 : 0 < z ∧ z ≤ 9223372036854775807 := by omega
    have hwz := w64 (a := z) (by omega) (by omega)
    rw [hz] at hwz
    rw [← hz] at hod
    obtain ⟨q, hq⟩ : ∃ q, q = (-9223372036854775808 : Int).tdiv z := ⟨_, rfl⟩
    have hq1 : -9223372036854775808 ≤ q ∧ q ≤ 0 := by
      have e : (-9223372036854775808 : Int).tdiv z = -(9223372036854775808 / z) := by
        show (-(9223372036854775808 : Int)).tdiv z = _
        rw [Int.neg_tdiv, Int.tdiv_eq_ediv_of_nonneg (by omega)]
      have h1 : 9223372036854775808 / z ≤ 9223372036854775808 := Int.ediv_le_self _ (by omega)
      have h2 : 0 ≤ 9223372036854775808 / z := Int.ediv_nonneg (by omega) (by omega)
      omega
    have hw := w64 (a := q) (by omega) (by omega)
    have hod' : x < q ↔ x * z < -9223372036854775808 := by rw [hq]; exact hod
    have hzn : (z == 0) = false := by rw [beq_eq_false_iff_ne]; omega
    have hzn' : (z = 0) = False := eq_false (by omega)
    have hp : x * z < 0 := Int.mul_neg_of_neg_of_pos hx.1 hz1.1
    rw [← hz]
    have hz' := hz.symm
    have hwz' : wrap64 (-y) = z := by rw [hwz, hz]
    cases hi : inR (x * z)
    · have hd : decide (x < q) = true := decide_eq_true (hod'.2 (by rw [inR_no] at hi; omega))
      rw [numR_out hi, errR_out hi]
      clear hx hy hod hod' hq1 hi hp hz1 hy0 hwz hz hz'
      have hq2 := hq.symm
      clear hq
      go_enter Try.func16, Try.ntmps16
      cases sb
      all_goals
        go_wp2_with fail
        refine (HA.out _).mono ?_
        rintro r w1 ⟨rfl, rfl⟩
        go_wp2_with fail
        refine (HB.out _).mono ?_
        rintro r w1 ⟨rfl, rfl⟩
        go_wp2
        go_ret2
        exact ⟨rfl, rfl⟩
    · have hd : decide (x < q) = false := decide_eq_false (fun h => by have := hod'.1 h; rw [inR_iff] at hi; omega)
      rw [numR_in hi, errR_in hi]
      have E := Lib.hid (w64 (a := x * z) (by rw [inR_iff] at hi; omega) (by rw [inR_iff] at hi; omega))
      clear hx hy hod hod' hq1 hi hp hz1 hy0 hwz hz hz'
      have hq2 := hq.symm
      clear hq
      go_enter Try.func16, Try.ntmps16
      cases sb
      all_goals
        go_wp2_with fail
        refine (HA.out _).mono ?_
        rintro r w1 ⟨rfl, rfl⟩
        go_wp2_with fail
        refine (HB.out _).mono ?_
        rintro r w1 ⟨rfl, rfl⟩
        go_wp2
        go_ret2
        exact ⟨ret2 E.out rfl, rfl⟩
theorem refMul_quiet (a b : Int) (w : World) (a1 : -9223372036854775808 ≤ a) (a2 : a ≤ 9223372036854775807) (b1 : -9223372036854775808 ≤ b) (b2 : b ≤ 9223372036854775807) :
    Calls Try.prog 16 #[.int .i64 a, .int .i64 b] w (MulP a b w) := by
  by_cases a0 : a = 0
  · subst a0
    unfold MulP
    have e1 : numR (0 * b) = 0 := by rw [Int.zero_mul]; decide
    have e2 : errR (0 * b) = 0 := by rw [Int.zero_mul]; decide
    rw [e1, e2]
    clear a1 a2 b1 b2 e1 e2
    go_enter Try.func16, Try.ntmps16
    go_wp2
    go_ret2
    exact ⟨rfl, rfl⟩
  · by_cases b0 : b = 0
    · subst b0
      unfold MulP
      have e1 : numR (a * 0) = 0 := by rw [Int.mul_zero]; decide
      have e2 : errR (a * 0) = 0 := by rw [Int.mul_zero]; decide
      have ha0 : (a == 0) = false := by rw [beq_eq_false_iff_ne]; exact a0
      rw [e1, e2]
      clear a1 a2 b1 b2 e1 e2 a0
      go_enter Try.func16, Try.ntmps16
      go_wp2
      go_ret2
      exact ⟨rfl, rfl⟩
    · by_cases hs : decide (a < 0) = decide (b < 0)
      · exact refMul_same a b w a1 a2 b1 b2 a0 b0 hs
      · exact refMul_diff a b w a1 a2 b1 b2 a0 b0 (by cases h1 : decide (a < 0) <;> cases h2 : decide (b < 0) <;> simp_all)
theorem refMul_any : Six 16 (fun a b => numR (a * b)) (fun a b => errR (a * b)) :=
  fun a b w a1 a2 b1 b2 => (refMul_quiet a b w a1 a2 b1 b2).mono fun _ _ ⟨h, e⟩ => ⟨h, e ▸ Below.refl _ _⟩

def DivP (a b : Int) (w : World) (r : Ending) (w' : World) : Prop := r = .returned (.tuple #[.int .i64 (divN a b), .int .i64 (divE a b)]) ∧ w = w'
theorem refDiv_quiet (a b : Int) (w : World) (a1 : -9223372036854775808 ≤ a) (a2 : a ≤ 9223372036854775807) (b1 : -9223372036854775808 ≤ b) (b2 : b ≤ 9223372036854775807) :
    Calls Try.prog 18 #[.int .i64 a, .int .i64 b] w (DivP a b w) := by
  unfold DivP
  by_cases b0 : b = 0
  · subst b0
    clear a1 a2 b1 b2
    go_enter Try.func18, Try.ntmps18
    go_wp2
    go_ret2
    exact ⟨rfl, rfl⟩
  · rw [divN_ne b0, divE_ne b0]
    have hb0 : (b == 0) = false := by rw [beq_eq_false_iff_ne]; exact b0
    have hb0' : (b = 0) = False := eq_false b0
    by_cases hm : a = -9223372036854775808 ∧ b = -1
    · obtain ⟨rfl, rfl⟩ := hm
      have e1 : numR ((-9223372036854775808 : Int).tdiv (-1)) = 0 := by decide
      have e2 : errR ((-9223372036854775808 : Int).tdiv (-1)) = 10 := by decide
      rw [e1, e2]
      clear a1 a2 b1 b2 e1 e2
      go_enter Try.func18, Try.ntmps18
      go_wp2
      go_ret2
      exact ⟨rfl, rfl⟩
    · have hi := share_in (a := a) (inR_iff.2 ⟨a1, a2⟩) b0 hm
      rw [numR_in hi, errR_in hi]
      have E := Lib.hid (w64 (a := a.tdiv b) (inR_iff.1 hi).1 (inR_iff.1 hi).2)
      by_cases hl : a = -9223372036854775808
      · have hb1 : (b == -1) = false := by rw [beq_eq_false_iff_ne]; exact fun h => hm ⟨hl, h⟩
        subst hl
        have E2 := Lib.hid ((congrArg wrap64 (Int.neg_tdiv (a := 9223372036854775808) (b := b)).symm).trans E.out)
        clear a1 a2 b1 b2 hm hi
        go_enter Try.func18, Try.ntmps18
        go_wp2
        go_ret2
        exact ⟨ret2 E2.out rfl, rfl⟩
      · have hl1 : (a == -9223372036854775808) = false := by rw [beq_eq_false_iff_ne]; exact hl
        clear a1 a2 b1 b2 hm hi hl
        go_enter Try.func18, Try.ntmps18
        go_wp2
        go_ret2
        exact ⟨ret2 E.out rfl, rfl⟩
theorem refDiv_any : Six 18 divN divE :=
  fun a b w a1 a2 b1 b2 => (refDiv_quiet a b w a1 a2 b1 b2).mono fun _ _ ⟨h, e⟩ => ⟨h, e ▸ Below.refl _ _⟩

theorem mod_back {a b : Int} (a1 : -9223372036854775808 ≤ a) (a2 : a ≤ 9223372036854775807) (b0 : b ≠ 0) : wrap64 (a - wrap64 (b * a.tdiv b)) = a.tmod b := by
  have h1 := share_back a b
  have h2 := inR_iff.1 (rest_in a1 a2 b0)
  unfold wrap64
  omega
theorem refMod_any : Six 20 modN (fun _ b => modE b) := by
  intro a b w a1 a2 b1 b2
  have H := Lib.hid (refDiv_quiet a b w a1 a2 b1 b2)
  by_cases b0 : b = 0
  · subst b0
    clear a1 a2 b1 b2
    go_enter Try.func20, Try.ntmps20
    go_wp2_with fail
    refine H.out.mono ?_
    rintro r w1 ⟨rfl, rfl⟩
    have e1 : divN a 0 = 0 := rfl
    have e2 : divE a 0 = 11 := rfl
    rw [e1, e2]
    clear e1 e2
    go_wp2
    go_ret2
    exact ⟨rfl, Below.refl _ _⟩
  · simp only [modN_ne b0, modE_ne b0]
    by_cases hm : a = -9223372036854775808 ∧ b = -1
    · obtain ⟨rfl, rfl⟩ := hm
      have e3 : (-9223372036854775808 : Int).tmod (-1) = 0 := by decide
      rw [e3]
      clear a1 a2 b1 b2 e3
      go_enter Try.func20, Try.ntmps20
      go_wp2_with fail
      refine H.out.mono ?_
      rintro r w1 ⟨rfl, rfl⟩
      have e1 : divN (-9223372036854775808) (-1) = 0 := by decide
      have e2 : divE (-9223372036854775808) (-1) = 10 := by decide
      rw [e1, e2]
      clear e1 e2
      go_wp2
      go_ret2
      exact ⟨rfl, Below.refl _ _⟩
    · have hi := share_in (a := a) (inR_iff.2 ⟨a1, a2⟩) b0 hm
      have E := Lib.hid (mod_back a1 a2 b0)
      have e1 := Lib.hid (show divN a b = a.tdiv b by rw [divN_ne b0, numR_in hi])
      have e2 := Lib.hid (show divE a b = 0 by rw [divE_ne b0, errR_in hi])
      clear a1 a2 b1 b2 hm hi b0
      go_enter Try.func20, Try.ntmps20
      go_wp2_with fail
      refine H.out.mono ?_
      rintro r w1 ⟨rfl, rfl⟩
      rw [e1.out, e2.out]
      go_wp2
      go_ret2
      exact ⟨ret2 E.out rfl, Below.refl _ _⟩
end Go.Proofs.Ytbkliomiboekhaa
