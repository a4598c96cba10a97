/- Clock: plain laws of the order. -/
import Derived.Test.YtfhainobolfleaaH
import Derived.Test.YtfhainobolfleaaTicksW
namespace Go.Proofs.Ytfhainobolfleaa
open Go.RowKit
set_option linter.unusedVariables false

theorem leL_join_left (C D : List Int) : leL C (joinL C D) = true := (leL_iff _ _).2 fun n => by rw [atZ_joinL]; omega
theorem leL_join_right (C D : List Int) : leL D (joinL C D) = true := (leL_iff _ _).2 fun n => by rw [atZ_joinL]; omega
theorem leL_join_least (C D X : List Int) : leL (joinL C D) X = (leL C X && leL D X) := by
  refine bool_iff ?_
  rw [Bool.and_eq_true, leL_iff, leL_iff, leL_iff]
  constructor
  · intro h
    exact ⟨fun n => by have := h n; rw [atZ_joinL] at this; omega, fun n => by have := h n; rw [atZ_joinL] at this; omega⟩
  · rintro ⟨h1, h2⟩ n
    rw [atZ_joinL]
    have := h1 n
    have := h2 n
    omega
theorem eq_comm_join (C D : List Int) : eqL (joinL C D) (joinL D C) = true := (eqL_iff _ _).2 fun n => by rw [atZ_joinL, atZ_joinL]; omega
theorem eq_assoc_join (C D X : List Int) : eqL (joinL (joinL C D) X) (joinL C (joinL D X)) = true := (eqL_iff _ _).2 fun n => by rw [atZ_joinL, atZ_joinL, atZ_joinL, atZ_joinL]; omega
theorem eq_self_join (C : List Int) : eqL (joinL C C) C = true := (eqL_iff _ _).2 fun n => by rw [atZ_joinL]; omega
theorem eq_again_join (C D : List Int) : eqL (joinL (joinL C D) D) (joinL C D) = true := (eqL_iff _ _).2 fun n => by rw [atZ_joinL, atZ_joinL]; omega
theorem joinL_length (C D : List Int) : (joinL C D).length ≤ max C.length D.length := by
  unfold joinL; rw [formL_length]; exact trim_le _ _
theorem tickL_length (C : List Int) (n : Int) : (tickL C n).length ≤ max C.length 65536 := by
  unfold tickL; rw [formL_length]
  refine Nat.le_trans (trim_le _ _) ?_
  unfold tickN
  split
  · rename_i h
    have := (tickOn_iff C n).1 h
    omega
  · omega
theorem le_trans_not (C D X : List Int) (h1 : leL C D = true) (h2 : leL D X = true) : leL C X = true := (leL_iff _ _).2 fun n => Int.le_trans ((leL_iff _ _).1 h1 n) ((leL_iff _ _).1 h2 n)
theorem le_anti (C D : List Int) : eqL C D = (leL C D && leL D C) := by
  refine bool_iff ?_
  rw [Bool.and_eq_true, leL_iff, leL_iff, eqL_iff]
  constructor
  · exact fun h => ⟨fun n => Int.le_of_eq (h n), fun n => Int.le_of_eq (h n).symm⟩
  · exact fun ⟨h1, h2⟩ n => Int.le_antisymm (h1 n) (h2 n)
theorem le_refl_ (C : List Int) : leL C C = true := (leL_iff _ _).2 fun n => Int.le_refl _
end Go.Proofs.Ytfhainobolfleaa
