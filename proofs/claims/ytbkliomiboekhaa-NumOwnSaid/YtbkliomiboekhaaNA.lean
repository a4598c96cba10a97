/- Numbers: contracts of the program's parts: a number taken apart, put together, added, multiplied, shared out. -/
import Derived.Test.YtbkliomiboekhaaKit
import Derived.Test.YtbkliomiboekhaaNL
import Derived.Test.YtbkliomiboekhaaChecked
import Derived.Laws.Externs
import Derived.Lib.Mul64
import Derived.Laws.Bits64b
import Derived.RegionTactic
namespace Go.Proofs.Ytbkliomiboekhaa
open Go.RowKit
set_option linter.unusedVariables false

/-- a size: a u64 -/
def Sz (s : Int) : Prop := 0 ≤ s ∧ s ≤ 18446744073709551615

theorem wrap_neg64 {a : Int} (h1 : -9223372036854775808 ≤ a) (h2 : a < 0) : IntKind.u64.wrap (-(IntKind.u64.wrap a)) = -a := by
  rw [IntKind.wrap_u64, IntKind.wrap_u64]; omega
theorem wrap_pos64 {a : Int} (h1 : 0 ≤ a) (h2 : a ≤ 9223372036854775807) : IntKind.u64.wrap a = a := by
  rw [IntKind.wrap_u64]; omega

def magn (a : Int) : Int := if a < 0 then -a else a
theorem magn_sv (a : Int) : sv (decide (a < 0)) (magn a) = a := by
  unfold sv magn; by_cases h : a < 0 <;> simp [h]

theorem of_any (a : Int) (w : World) (h1 : -9223372036854775808 ≤ a) (h2 : a ≤ 9223372036854775807) :
    Calls Try.prog 40 #[.int .i64 a] w fun r w' => r = .returned (.agg #[.bool (decide (a < 0)), .int .u64 (magn a)]) ∧ Below w.heap.size w w' := by
  by_cases h : a < 0
  · have e := wrap_neg64 h1 h
    have hm : magn a = -a := if_pos h
    have hd : decide (a < 0) = true := decide_eq_true h
    rw [hm, hd]
    have E := Lib.hid e
    clear h1 h2 e hm
    go_enter Try.func40, Try.ntmps40
    go_wp2
    exact bodyPost_ret (v := .agg #[.bool true, .int .u64 (-a)]) (by simp [results, Try.results40, go_sem, E.out]) rfl ⟨rfl, ((Below.refl _ _).alloc (Nat.le_refl _) _)⟩
  · have e := wrap_pos64 (a := a) (by omega) h2
    have hm : magn a = a := if_neg h
    have hd : decide (a < 0) = false := decide_eq_false h
    rw [hm, hd]
    have E := Lib.hid e
    clear h1 h2 e hm
    go_enter Try.func40, Try.ntmps40
    go_wp2
    exact bodyPost_ret (v := .agg #[.bool false, .int .u64 a]) (by simp [results, Try.results40, go_sem, E.out]) rfl ⟨rfl, ((Below.refl _ _).alloc (Nat.le_refl _) _)⟩

theorem back_low {s : Int} (h1 : 0 ≤ s) (h2 : s ≤ 9223372036854775808) : wrap64 (wrap64 (-(wrap64 (IntKind.u64.wrap (s - 1)))) - 1) = sv true s := by
  show _ = -s
  simp only [IntKind.wrap_u64, wrap64]; omega
theorem back_up {s : Int} (h1 : 0 ≤ s) (h2 : s < 9223372036854775808) : wrap64 s = sv false s := by
  show _ = s
  simp only [wrap64]; omega

theorem ret2 {a b c d : Int} (h : a = b) (h' : c = d) : Ending.returned (.tuple #[.int .i64 a, .int .i64 c]) = .returned (.tuple #[.int .i64 b, .int .i64 d]) := by rw [h, h']
set_option maxHeartbeats 400000 in
theorem number_yes (l : Bool) (s : Int) (w : World) (h : Sz s) :
    Calls Try.prog 39 #[.agg #[.bool l, .int .u64 s], .bool true] w fun r w' => r = .returned (.tuple #[.int .i64 (numR (sv l s)), .int .i64 (errR (sv l s))]) ∧ Below w.heap.size w w' := by
  obtain ⟨h0, h1⟩ := h
  rcases Int.lt_trichotomy s 9223372036854775808 with hs | hs | hs
  · have hin : inR (sv l s) = true := by rw [inR_iff]; cases l <;> simp [sv] <;> omega
    have e1 := numR_in hin
    have e2 := errR_in hin
    have d1 : decide (9223372036854775808 < s) = false := decide_eq_false (by omega)
    have d2 : (s == 9223372036854775808) = false := by rw [beq_eq_false_iff_ne]; omega
    rw [e1, e2]
    have B1 := Lib.hid (back_low h0 (by omega))
    have B2 := Lib.hid (back_up h0 hs)
    clear h0 h1 hs hin e1 e2
    cases l
    · go_enter Try.func39, Try.ntmps39
      go_wp2
      go_ret2
      exact ⟨ret2 B2.out rfl, (Below.refl _ _).alloc (Nat.le_refl _) _⟩
    · go_enter Try.func39, Try.ntmps39
      go_wp2
      go_ret2
      exact ⟨ret2 B1.out rfl, (Below.refl _ _).alloc (Nat.le_refl _) _⟩
  · subst hs
    cases l
    · have e1 : numR (sv false 9223372036854775808) = 0 := by decide
      have e2 : errR (sv false 9223372036854775808) = 10 := by decide
      rw [e1, e2]
      clear h0 h1 e1 e2
      go_enter Try.func39, Try.ntmps39
      go_wp2
      go_ret2
      exact ⟨rfl, (Below.refl _ _).alloc (Nat.le_refl _) _⟩
    · have e1 : numR (sv true 9223372036854775808) = -9223372036854775808 := by decide
      have e2 : errR (sv true 9223372036854775808) = 0 := by decide
      rw [e1, e2]
      clear h0 h1 e1 e2
      go_enter Try.func39, Try.ntmps39
      go_wp2
      go_ret2
      exact ⟨rfl, (Below.refl _ _).alloc (Nat.le_refl _) _⟩
  · have hin : inR (sv l s) = false := by rw [inR_no]; cases l <;> simp [sv] <;> omega
    have e1 := numR_out hin
    have e2 := errR_out hin
    have d1 : decide (9223372036854775808 < s) = true := decide_eq_true (by omega)
    rw [e1, e2]
    clear h0 h1 hs hin e1 e2
    go_enter Try.func39, Try.ntmps39
    go_wp2
    go_ret2
    exact ⟨rfl, (Below.refl _ _).alloc (Nat.le_refl _) _⟩
theorem number_no (l : Bool) (s : Int) (w : World) :
    Calls Try.prog 39 #[.agg #[.bool l, .int .u64 s], .bool false] w fun r w' => r = .returned (.tuple #[.int .i64 0, .int .i64 10]) ∧ Below w.heap.size w w' := by
  go_enter Try.func39, Try.ntmps39
  go_wp2
  go_ret2
  exact ⟨rfl, (Below.refl _ _).alloc (Nat.le_refl _) _⟩

/-! ### two of them -/
theorem add64_0 (x y : Int) (hx : 0 ≤ x) (hx' : x ≤ 18446744073709551615) (hy : 0 ≤ y) (hy' : y ≤ 18446744073709551615) (w : World) : (callFunc 41 #[.int .u64 x, .int .u64 y, .int .u64 0]).run Try.prog w =
    .ok (.value (.tuple #[.int .u64 ((x + y) % 18446744073709551616), .int .u64 ((x + y) / 18446744073709551616)])) w := by
  rw [run_callFunc_extern Try.func41 (by kernel_rfl) (by kernel_rfl) (by kernel_rfl) (e := add64Entry) (by kernel_rfl), run_add64 x y 0 hx hy (by omega) (by omega)]
  simp only [Result.andThen, Int.add_zero]

theorem bel2 (w : World) (o1 o2 : Obj) : Below w.heap.size w ((w.alloc o1).alloc o2) := ((Below.refl _ _).alloc (Nat.le_refl _) _).alloc (by simp) _
theorem bel3 (w : World) (o1 o2 o3 : Obj) : Below w.heap.size w (((w.alloc o1).alloc o2).alloc o3) := (bel2 w o1 o2).alloc (by simp; omega) _
theorem turned_any (l : Bool) (s : Int) (w : World) :
    Calls Try.prog 42 #[.agg #[.bool l, .int .u64 s]] w fun r w' => ∃ m, r = .returned (.agg #[.bool m, .int .u64 s]) ∧ sv m s = - sv l s ∧ Below w.heap.size w w' := by
  cases l
  · by_cases hs : s = 0
    · subst hs
      go_enter Try.func42, Try.ntmps42
      go_wp2
      go_region
      all_goals
        go_wp2
        exact bodyPost_ret (v := .agg #[.bool false, .int .u64 0]) (by simp [results, Try.results42, go_sem]) rfl ⟨false, rfl, rfl, (bel2 _ _ _).drew⟩
    · have h0 : (s = 0) = False := eq_false hs
      go_enter Try.func42, Try.ntmps42
      go_wp2
      go_region
      all_goals
        go_wp2
        exact bodyPost_ret (v := .agg #[.bool true, .int .u64 s]) (by simp [results, Try.results42, go_sem]) rfl ⟨true, rfl, rfl, (bel2 _ _ _).drew⟩
  · go_enter Try.func42, Try.ntmps42
    go_wp2
    go_region
    all_goals
      go_wp2
      exact bodyPost_ret (v := .agg #[.bool false, .int .u64 s]) (by simp [results, Try.results42, go_sem]) rfl ⟨false, rfl, by simp [sv], (bel2 _ _ _).drew⟩

/-- too far away from 0 for a size -/
def Far (V : Int) : Prop := 18446744073709551616 ≤ V ∨ V ≤ -18446744073709551616
theorem far_out {V : Int} (h : Far V) : inR V = false := by unfold Far at h; rw [inR_no]; omega
/-- what two come to: a number, or one that goes over -/
def Outc (V : Int) (w : World) (r : Ending) (w' : World) : Prop :=
  ∃ l s f, r = .returned (.tuple #[.agg #[.bool l, .int .u64 s], .bool f]) ∧ Sz s ∧ (f = true → sv l s = V) ∧ (f = false → Far V) ∧ Below w.heap.size w w'
theorem Outc.yes {V : Int} {w w' : World} {r : Ending} (l : Bool) (s : Int) (h : r = .returned (.tuple #[.agg #[.bool l, .int .u64 s], .bool true])) (hs : Sz s) (hv : sv l s = V) (hb : Below w.heap.size w w') : Outc V w r w' :=
  ⟨l, s, true, h, hs, fun _ => hv, fun h => (by cases h), hb⟩
theorem Outc.no {V : Int} {w w' : World} {r : Ending} (l : Bool) (s : Int) (h : r = .returned (.tuple #[.agg #[.bool l, .int .u64 s], .bool false])) (hs : Sz s) (hv : Far V) (hb : Below w.heap.size w w') : Outc V w r w' :=
  ⟨l, s, false, h, hs, fun h => (by cases h), fun _ => hv, hb⟩

end Go.Proofs.Ytbkliomiboekhaa
