/- Clock: awake. -/
import Derived.Test.YtfhainobolfleaaG
namespace Go.Proofs.Ytfhainobolfleaa
open Go.RowKit
set_option linter.unusedVariables false

theorem Rd.new (w : World) (L : List Int) (t : TypeId) : Rd (w.alloc (.cells (L.map (Value.int .i64)).toArray t)) (w.heap.size + 1) 1 intC (some ⟨w.heap.size, 0, none⟩) L := by
  refine .inr ⟨w.heap.size, 0, rfl, by omega, fun i x hx j u hu => ?_⟩
  rw [(Blk.new w t _).cell]
  match j, hu with
  | 0, hu =>
    simp [intC] at hu
    subst hu
    simp [hx]
  | j + 1, hu => simp [intC] at hu
theorem Rd.new2 (w : World) (L M : List Int) (t : TypeId) :
    Rd ((w.alloc (.cells (L.map (Value.int .i64)).toArray t)).alloc (.cells (M.map (Value.int .i64)).toArray t)) (w.heap.size + 1 + 1) 1 intC (some ⟨w.heap.size, 0, none⟩) L ∧ Rd ((w.alloc (.cells (L.map (Value.int .i64)).toArray t)).alloc (.cells (M.map (Value.int .i64)).toArray t)) (w.heap.size + 1 + 1) 1 intC (some ⟨w.heap.size + 1, 0, none⟩) M := by
  refine ⟨((Rd.new w L t).alloc (by simp) _).more (by omega), ?_⟩
  have := Rd.new (w.alloc (.cells (L.map (Value.int .i64)).toArray t)) M t
  rwa [World.size_alloc] at this

set_option maxRecDepth 100000 in
set_option maxHeartbeats 4000000 in
theorem awake_any (w : World) : Calls Try.prog 21 #[] w fun r w' => r = .returned (.bool true) ∧ Below w.heap.size w w' := by
  go_enter Try.func21, Try.ntmps21
  go_wp2_with fail
  refine (tick_any (some ⟨w.heap.size, 0, none⟩) 1 1 [3] 2 _ rfl (by omega) ((Rd.new w [3] 3).more (by simp))).mono ?_
  rintro r w1 ⟨v, rfl, hown, hb1⟩
  rw [show tickL [3] 2 = [3, 0, 1] from by decide +kernel] at hown
  obtain ⟨ga, ca, rfl⟩ := own_succ (k := 2) hown
  have hga := (hown.lt ga rfl).2
  have a0 : w1.cell? ⟨ga, 0, none⟩ = some (.int .i64 3) := hown.cellAt 0 (by decide)
  have a1 : w1.cell? ⟨ga, 1, none⟩ = some (.int .i64 0) := hown.cellAt 1 (by decide)
  have a2 : w1.cell? ⟨ga, 2, none⟩ = some (.int .i64 1) := hown.cellAt 2 (by decide)
  have hB1 : Below w.heap.size w w1 := ((Below.refl _ w).alloc (Nat.le_refl _) _).trans (hb1.mono (by simp))
  clear hown hb1
  go_wp2_with fail
  refine (join_any (some ⟨w1.heap.size, 0, none⟩) (some ⟨w1.heap.size + 1, 0, none⟩) 2 2 4 4 [3, 1] [2, 4, 0, 1] _ rfl rfl (by omega) (by omega) ((Rd.new2 w1 [3, 1] [2, 4, 0, 1] 3).1.more (by simp)) ((Rd.new2 w1 [3, 1] [2, 4, 0, 1] 3).2.more (by simp))).mono ?_
  rintro r w2 ⟨v, rfl, hown, hb2⟩
  rw [show joinL [3, 1] [2, 4, 0, 1] = [3, 4, 0, 1] from by decide +kernel] at hown
  obtain ⟨gb, cb, rfl⟩ := own_succ (k := 3) hown
  have b0 : w2.cell? ⟨gb, 0, none⟩ = some (.int .i64 3) := hown.cellAt 0 (by decide)
  have b1 : w2.cell? ⟨gb, 1, none⟩ = some (.int .i64 4) := hown.cellAt 1 (by decide)
  have b3 : w2.cell? ⟨gb, 3, none⟩ = some (.int .i64 1) := hown.cellAt 3 (by decide)
  have hb12 : Below w1.heap.size w1 w2 := (((Below.refl _ w1).alloc (Nat.le_refl _) _).alloc (by simp) _).trans (hb2.mono (by simp; omega))
  have a0' := (hb12.cell (p := ⟨ga, 0, none⟩) hga).trans a0
  have a1' := (hb12.cell (p := ⟨ga, 1, none⟩) hga).trans a1
  have a2' := (hb12.cell (p := ⟨ga, 2, none⟩) hga).trans a2
  have hB2 : Below w.heap.size w w2 := hB1.trans (hb12.mono hB1.size)
  clear a0 a1 a2 hown hb2 hb12 hB1 hga
  go_wp2_with fail
  refine (at_12 (n := 0) (C := [3, 1]) rfl (Rd.new w2 [3, 1] 3)).mono ?_
  rintro r w3 ⟨rfl, hw3⟩
  rw [show atZ [3, 1] 0 = 3 from by decide +kernel]
  have hB3 : Below w.heap.size w w3 := by rw [← hw3]; exact hB2.alloc hB2.size _
  clear hw3 hB2
  clear a0' a1' a2' b0 b1 b3
  go_wp2_with fail
  refine (at_12 (n := 5) (C := [3, 1]) rfl (Rd.new w3 [3, 1] 3)).mono ?_
  rintro r w4 ⟨rfl, hw4⟩
  rw [show atZ [3, 1] 5 = 0 from by decide +kernel]
  have hB4 : Below w.heap.size w w4 := by rw [← hw4]; exact hB3.alloc hB3.size _
  clear hw4 hB3
  go_wp2_with fail
  refine (at_12 (n := (-1)) (C := [3]) rfl (Rd.new w4 [3] 3)).mono ?_
  rintro r w5 ⟨rfl, hw5⟩
  rw [show atZ [3] (-1) = 0 from by decide +kernel]
  have hB5 : Below w.heap.size w w5 := by rw [← hw5]; exact hB4.alloc hB4.size _
  clear hw5 hB4
  go_wp2_with fail
  refine (leL_any (some ⟨w5.heap.size, 0, none⟩) (some ⟨w5.heap.size + 1, 0, none⟩) 1 1 2 2 [1] [1, 0] _ rfl rfl (by decide) ((Rd.new2 w5 [1] [1, 0] 3).1.more (by simp)) ((Rd.new2 w5 [1] [1, 0] 3).2.more (by simp))).mono ?_
  rintro r w6 ⟨rfl, hb6⟩
  rw [show leL [1] [1, 0] = true from by decide +kernel]
  have hB6 : Below w.heap.size w w6 := (((hB5.alloc hB5.size _).alloc (by have := hB5.size; simp; omega) _)).trans (hb6.mono (by have := hB5.size; simp; omega))
  clear hb6 hB5
  go_wp2_with fail
  refine (leL_any (some ⟨w6.heap.size, 0, none⟩) (some ⟨w6.heap.size + 1, 0, none⟩) 2 2 1 1 [0, 1] [5] _ rfl rfl (by decide) ((Rd.new2 w6 [0, 1] [5] 3).1.more (by simp)) ((Rd.new2 w6 [0, 1] [5] 3).2.more (by simp))).mono ?_
  rintro r w7 ⟨rfl, hb7⟩
  rw [show leL [0, 1] [5] = false from by decide +kernel]
  have hB7 : Below w.heap.size w w7 := (((hB6.alloc hB6.size _).alloc (by have := hB6.size; simp; omega) _)).trans (hb7.mono (by have := hB6.size; simp; omega))
  clear hb7 hB6
  go_wp2_with fail
  refine (eqL_any (some ⟨w7.heap.size, 0, none⟩) (some ⟨w7.heap.size + 1, 0, none⟩) 3 3 1 1 [1, 0, 0] [1] _ rfl rfl (by decide) ((Rd.new2 w7 [1, 0, 0] [1] 3).1.more (by simp)) ((Rd.new2 w7 [1, 0, 0] [1] 3).2.more (by simp))).mono ?_
  rintro r w8 ⟨rfl, hb8⟩
  rw [show eqL [1, 0, 0] [1] = true from by decide +kernel]
  have hB8 : Below w.heap.size w w8 := (((hB7.alloc hB7.size _).alloc (by have := hB7.size; simp; omega) _)).trans (hb8.mono (by have := hB7.size; simp; omega))
  clear hb8 hB7
  go_wp2_with fail
  refine (eqL_any (some ⟨w8.heap.size, 0, none⟩) (some ⟨w8.heap.size + 1, 0, none⟩) 1 1 2 2 [1] [0, 1] _ rfl rfl (by decide) ((Rd.new2 w8 [1] [0, 1] 3).1.more (by simp)) ((Rd.new2 w8 [1] [0, 1] 3).2.more (by simp))).mono ?_
  rintro r w9 ⟨rfl, hb9⟩
  rw [show eqL [1] [0, 1] = false from by decide +kernel]
  have hB9 : Below w.heap.size w w9 := (((hB8.alloc hB8.size _).alloc (by have := hB8.size; simp; omega) _)).trans (hb9.mono (by have := hB8.size; simp; omega))
  clear hb9 hB8
  go_wp2
  go_ret
  exact ⟨rfl, hB9⟩
end Go.Proofs.Ytfhainobolfleaa
