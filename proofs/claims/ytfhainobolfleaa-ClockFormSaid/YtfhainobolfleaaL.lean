/- Clock: plain laws of forms with noughts behind. -/
import Derived.Test.YtfhainobolfleaaK
namespace Go.Proofs.Ytfhainobolfleaa
open Go.RowKit
set_option linter.unusedVariables false
theorem joinL_last (C D : List Int) (q : Nat) (h : (joinL C D).length = q + 1) (x : Int) (hx : (joinL C D)[q]? = some x) : (x == 0) = false := by
  unfold joinL at h hx
  have := formL_last _ _ q h
  rw [this.1] at hx
  cases hx
  simpa using this.2
theorem tickL_last (C : List Int) (n : Int) (q : Nat) (h : (tickL C n).length = q + 1) (x : Int) (hx : (tickL C n)[q]? = some x) : (x == 0) = false := by
  unfold tickL at h hx
  have := formL_last _ _ q h
  rw [this.1] at hx
  cases hx
  simpa using this.2
theorem join_more (C D : List Int) (q : Nat) : joinL (C ++ List.replicate q 0) D = joinL C D := joinL_congr (atZ_more C q)
theorem tick_more (C : List Int) (n : Int) (q : Nat) (hb : -9223372036854775808 ≤ atZ C n) : tickL (C ++ List.replicate q 0) n = tickL C n := tickL_congr (atZ_more C q) n (by rw [atZ_more]; exact hb)
theorem eq_more (C : List Int) (q : Nat) : eqL C (C ++ List.replicate q 0) = true := (eqL_iff _ _).2 fun n => (atZ_more C q n).symm
theorem le_more (C D : List Int) (q : Nat) : leL (C ++ List.replicate q 0) D = leL C D := by
  refine bool_iff ?_
  rw [leL_iff, leL_iff]
  simp only [atZ_more]
theorem eq_refl_ (C : List Int) : eqL C C = true := (eqL_iff _ _).2 fun n => rfl
end Go.Proofs.Ytfhainobolfleaa
