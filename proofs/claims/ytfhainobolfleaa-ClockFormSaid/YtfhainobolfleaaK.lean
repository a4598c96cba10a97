/- Clock: plain laws of Tick. -/
import Derived.Test.YtfhainobolfleaaJ
namespace Go.Proofs.Ytfhainobolfleaa
open Go.RowKit
set_option linter.unusedVariables false
theorem le_tick (C : List Int) (n : Int) (hb : -9223372036854775808 ≤ atZ C n) : leL C (tickL C n) = true := (leL_iff _ _).2 fun m => by
  rw [atZ_tickL _ _ hb]
  by_cases h : tickOn C n = true ∧ m = n
  · rw [if_pos h, h.2]; omega
  · rw [if_neg h]; exact Int.le_refl _
theorem tick_le (C : List Int) (n : Int) (hb : -9223372036854775808 ≤ atZ C n) : leL (tickL C n) C = !tickOn C n := by
  cases h : tickOn C n
  · refine (leL_iff _ _).2 fun m => ?_
    rw [atZ_tickL _ _ hb, if_neg (by simp [h])]; exact Int.le_refl _
  · show leL (tickL C n) C = false
    rw [Bool.eq_false_iff]
    intro ht
    have := (leL_iff _ _).1 ht n
    rw [atZ_tickL _ _ hb, if_pos ⟨h, rfl⟩] at this
    omega
theorem tick_eq (C : List Int) (n : Int) (hb : -9223372036854775808 ≤ atZ C n) : eqL (tickL C n) C = !tickOn C n := by
  rw [le_anti, le_tick C n hb, tick_le C n hb, Bool.and_true]
theorem tick_at (C : List Int) (n : Int) (hb : -9223372036854775808 ≤ atZ C n) (h : tickOn C n = true) : atZ (tickL C n) n = atZ C n + 1 := by
  rw [atZ_tickL _ _ hb, if_pos ⟨h, rfl⟩]
theorem tick_other (C : List Int) (n m : Int) (hb : -9223372036854775808 ≤ atZ C n) (h : m ≠ n) : atZ (tickL C n) m = atZ C m := by
  rw [atZ_tickL _ _ hb, if_neg (fun e => h e.2)]
end Go.Proofs.Ytfhainobolfleaa
