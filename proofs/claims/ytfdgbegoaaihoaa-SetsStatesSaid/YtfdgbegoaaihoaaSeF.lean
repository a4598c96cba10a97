/- Sets: contracts of Join, Less. -/
import Derived.Test.YtfdgbegoaaihoaaSeE
namespace Go.Proofs.Ytfdgbegoaaihoaa
open Go.RowKit
set_option linter.unusedVariables false
set_option linter.unusedSimpArgs false

theorem blk_at {W : World} {g g' : Nat} {t : TypeId} {cs : Array Value} (h : Blk W g t cs) (e : g = g') : Blk W g' t cs := e ▸ h
theorem bx0 {w : World} {g : Nat} {t : TypeId} {a b : Value} (h : Blk w g t #[a, b]) : w.cell? ⟨g, 0, none⟩ = some a := h.cell 0
theorem bx1 {w : World} {g : Nat} {t : TypeId} {a b : Value} (h : Blk w g t #[a, b]) : w.cell? ⟨g, 1, none⟩ = some b := h.cell 1
/-- a state is told -/
def StIs (w : World) (ad : Bool) (L : List Bs) (r : Ending) (w' : World) : Prop :=
  ∃ (z : Nm) (k : Nat), r = .returned (.agg #[.bool ad, .slice z.pa k z.pc]) ∧ z.row = L ∧ NmOk w' z k ∧ Below w.heap.size w w'

set_option maxHeartbeats 1600000 in
theorem join_tt (x y : Nm) (n m : Nat) (w : World) (hx : NmOk w x n) (hy : NmOk w y m) (hn : n ≤ 400000) (hm : m ≤ 400000) :
    Calls Try.prog 18 #[.agg #[.bool true, .slice x.pa n x.pc], .agg #[.bool true, .slice y.pa m y.pc]] w (StIs w (joinS true x.row true y.row).1 (joinS true x.row true y.row).2) := by
  obtain ⟨W0, hW0⟩ : ∃ W0, W0 = ((w.alloc (.cells #[.bool true, .slice x.pa n x.pc] 29)).alloc (.cells #[.bool true, .slice y.pa m y.pc] 29)).alloc (.cells #[.bool false, .slice none 0 0] 29) := ⟨_, rfl⟩
  have hb0 : Below w.heap.size w W0 := by rw [hW0]; exact (((Below.refl _ _).alloc (Nat.le_refl _) _).alloc (by simp) _).alloc (by simp; omega) _
  have hk1 : Blk W0 w.heap.size 29 #[.bool true, .slice x.pa n x.pc] := by rw [hW0]; exact ((Blk.new w _ _).alloc _).alloc _
  have hk2 : Blk W0 (w.heap.size + 1) 29 #[.bool true, .slice y.pa m y.pc] := by rw [hW0]; exact (blk_at (Blk.new (w.alloc _) _ _) (by simp)).alloc _
  have hk3 : Blk W0 (w.heap.size + 1 + 1) 29 #[.bool false, .slice none 0 0] := by rw [hW0]; exact blk_at (Blk.new ((w.alloc _).alloc _) _ _) (by simp)
  have HB0 := Lib.hid hb0
  have HK3 := Lib.hid hk3
  have c0 := bx0 hk1
  have c1 := bx1 hk1
  have c2 := bx0 hk2
  have c3 := bx1 hk2
  have c4 := bx0 hk3
  have c5 := bx1 hk3
  have f4 := hk3.frozen 0
  have f5 := hk3.frozen 1
  have z3 := hk3.lt
  have hzz : W0.heap.size = w.heap.size + 1 + 1 + 1 := by rw [hW0]; simp
  have HZ := Lib.hid hzz
  have HW := Lib.hid hW0
  clear hx hy hb0 hk1 hk2 hk3 hzz
  go_enter Try.func18, Try.ntmps18
  go_upto_region 1 with fail
  rw [← HW.out]
  clear hW0
  go_wp2
  have hk5 := (HK3.out.set_ 0 (.bool true)).set_ 1 (.slice none 0 0)
  have p0 := hk5.cell 0
  have p1 := hk5.cell 1
  simp at p0 p1
  refine bodyPost_ret (v := .agg #[.bool true, .slice none 0 0]) (by simp [results, Try.results18, go_sem, p0, p1]) rfl ⟨⟨none, 0, []⟩, 0, rfl, rfl, ⟨Rd.nil _ _ _ _ _, rfl, Nat.le_refl _, Nat.zero_le _⟩, ?_⟩
  exact (HB0.out.setCell (by simp; omega) _).setCell (by simp; omega) _

set_option maxHeartbeats 1600000 in
theorem join_tf (x y : Nm) (n m : Nat) (w : World) (hx : NmOk w x n) (hy : NmOk w y m) (hn : n ≤ 400000) (hm : m ≤ 400000) :
    Calls Try.prog 18 #[.agg #[.bool true, .slice x.pa n x.pc], .agg #[.bool false, .slice y.pa m y.pc]] w (StIs w (joinS true x.row false y.row).1 (joinS true x.row false y.row).2) := by
  obtain ⟨W0, hW0⟩ : ∃ W0, W0 = ((w.alloc (.cells #[.bool true, .slice x.pa n x.pc] 29)).alloc (.cells #[.bool false, .slice y.pa m y.pc] 29)).alloc (.cells #[.bool false, .slice none 0 0] 29) := ⟨_, rfl⟩
  have hb0 : Below w.heap.size w W0 := by rw [hW0]; exact (((Below.refl _ _).alloc (Nat.le_refl _) _).alloc (by simp) _).alloc (by simp; omega) _
  have hk1 : Blk W0 w.heap.size 29 #[.bool true, .slice x.pa n x.pc] := by rw [hW0]; exact ((Blk.new w _ _).alloc _).alloc _
  have hk2 : Blk W0 (w.heap.size + 1) 29 #[.bool false, .slice y.pa m y.pc] := by rw [hW0]; exact (blk_at (Blk.new (w.alloc _) _ _) (by simp)).alloc _
  have hk3 : Blk W0 (w.heap.size + 1 + 1) 29 #[.bool false, .slice none 0 0] := by rw [hW0]; exact blk_at (Blk.new ((w.alloc _).alloc _) _ _) (by simp)
  have HB0 := Lib.hid hb0
  have HK3 := Lib.hid hk3
  have c0 := bx0 hk1
  have c1 := bx1 hk1
  have c2 := bx0 hk2
  have c3 := bx1 hk2
  have c4 := bx0 hk3
  have c5 := bx1 hk3
  have f4 := hk3.frozen 0
  have f5 := hk3.frozen 1
  have z3 := hk3.lt
  have hzz : W0.heap.size = w.heap.size + 1 + 1 + 1 := by rw [hW0]; simp
  have HZ := Lib.hid hzz
  have HE := Lib.hid (of_any y m W0 (hy.next hb0) (by omega))
  have HW := Lib.hid hW0
  clear hx hy hb0 hk1 hk2 hk3 hzz
  go_enter Try.func18, Try.ntmps18
  go_upto_region 1 with fail
  rw [← HW.out]
  clear hW0
  go_wp2_with fail
  refine HE.out.mono ?_
  rintro r w1 ⟨z, k, rfl, hz, ho, hb1⟩
  have hk4 := HK3.out.below hb1 HK3.out.lt
  have HK4 := Lib.hid hk4
  have q0 := bx0 hk4
  have q1 := bx1 hk4
  have q2 := hk4.frozen 0
  have q3 := hk4.frozen 1
  have q4 := hk4.lt
  have HO := Lib.hid ho
  have HZr := Lib.hid hz
  have HB1 := Lib.hid (HB0.out.trans (hb1.mono HB0.out.size))
  clear ho hz hb1 hk4 c0 c1 c2 c3 c4 c5 f4 f5
  go_wp2
  have hk5 := (HK4.out.set_ 0 (.bool false)).set_ 1 (.slice z.pa k z.pc)
  have p0 := hk5.cell 0
  have p1 := hk5.cell 1
  simp at p0 p1
  refine bodyPost_ret (v := .agg #[.bool false, .slice z.pa k z.pc]) (by simp [results, Try.results18, go_sem, p0, p1]) rfl ⟨z, k, rfl, by rw [HZr.out]; first | rfl | (simp [joinS]), ?_, ?_⟩
  · have h1 : w1.ownsRow W0.heap.size 9 1 (.slice z.pa k z.pc) k (z.row.flatMap sC) := HO.out.own
    have h2 : NmOwn ((w1.setCell ⟨w.heap.size + 1 + 1, 0, none⟩ (.bool false)).setCell ⟨w.heap.size + 1 + 1, 1, none⟩ (.slice z.pa k z.pc)) W0.heap.size z k := ⟨own_far2 (own_far2 h1 (by have := HZ.out; show _ < _; simp only; omega) _) (by have := HZ.out; show _ < _; simp only; omega) _, HO.out.ln⟩
    exact h2.ok
  · exact (HB1.out.setCell (by simp; omega) _).setCell (by simp; omega) _

set_option maxHeartbeats 1600000 in
theorem join_ft (x y : Nm) (n m : Nat) (w : World) (hx : NmOk w x n) (hy : NmOk w y m) (hn : n ≤ 400000) (hm : m ≤ 400000) :
    Calls Try.prog 18 #[.agg #[.bool false, .slice x.pa n x.pc], .agg #[.bool true, .slice y.pa m y.pc]] w (StIs w (joinS false x.row true y.row).1 (joinS false x.row true y.row).2) := by
  obtain ⟨W0, hW0⟩ : ∃ W0, W0 = ((w.alloc (.cells #[.bool false, .slice x.pa n x.pc] 29)).alloc (.cells #[.bool true, .slice y.pa m y.pc] 29)).alloc (.cells #[.bool false, .slice none 0 0] 29) := ⟨_, rfl⟩
  have hb0 : Below w.heap.size w W0 := by rw [hW0]; exact (((Below.refl _ _).alloc (Nat.le_refl _) _).alloc (by simp) _).alloc (by simp; omega) _
  have hk1 : Blk W0 w.heap.size 29 #[.bool false, .slice x.pa n x.pc] := by rw [hW0]; exact ((Blk.new w _ _).alloc _).alloc _
  have hk2 : Blk W0 (w.heap.size + 1) 29 #[.bool true, .slice y.pa m y.pc] := by rw [hW0]; exact (blk_at (Blk.new (w.alloc _) _ _) (by simp)).alloc _
  have hk3 : Blk W0 (w.heap.size + 1 + 1) 29 #[.bool false, .slice none 0 0] := by rw [hW0]; exact blk_at (Blk.new ((w.alloc _).alloc _) _ _) (by simp)
  have HB0 := Lib.hid hb0
  have HK3 := Lib.hid hk3
  have c0 := bx0 hk1
  have c1 := bx1 hk1
  have c2 := bx0 hk2
  have c3 := bx1 hk2
  have c4 := bx0 hk3
  have c5 := bx1 hk3
  have f4 := hk3.frozen 0
  have f5 := hk3.frozen 1
  have z3 := hk3.lt
  have hzz : W0.heap.size = w.heap.size + 1 + 1 + 1 := by rw [hW0]; simp
  have HZ := Lib.hid hzz
  have HE := Lib.hid (of_any x n W0 (hx.next hb0) (by omega))
  have HW := Lib.hid hW0
  clear hx hy hb0 hk1 hk2 hk3 hzz
  go_enter Try.func18, Try.ntmps18
  go_upto_region 1 with fail
  rw [← HW.out]
  clear hW0
  go_wp2_with fail
  refine HE.out.mono ?_
  rintro r w1 ⟨z, k, rfl, hz, ho, hb1⟩
  have hk4 := HK3.out.below hb1 HK3.out.lt
  have HK4 := Lib.hid hk4
  have q0 := bx0 hk4
  have q1 := bx1 hk4
  have q2 := hk4.frozen 0
  have q3 := hk4.frozen 1
  have q4 := hk4.lt
  have HO := Lib.hid ho
  have HZr := Lib.hid hz
  have HB1 := Lib.hid (HB0.out.trans (hb1.mono HB0.out.size))
  clear ho hz hb1 hk4 c0 c1 c2 c3 c4 c5 f4 f5
  go_wp2
  have hk5 := (HK4.out.set_ 0 (.bool false)).set_ 1 (.slice z.pa k z.pc)
  have p0 := hk5.cell 0
  have p1 := hk5.cell 1
  simp at p0 p1
  refine bodyPost_ret (v := .agg #[.bool false, .slice z.pa k z.pc]) (by simp [results, Try.results18, go_sem, p0, p1]) rfl ⟨z, k, rfl, by rw [HZr.out]; first | rfl | (simp [joinS]), ?_, ?_⟩
  · have h1 : w1.ownsRow W0.heap.size 9 1 (.slice z.pa k z.pc) k (z.row.flatMap sC) := HO.out.own
    have h2 : NmOwn ((w1.setCell ⟨w.heap.size + 1 + 1, 0, none⟩ (.bool false)).setCell ⟨w.heap.size + 1 + 1, 1, none⟩ (.slice z.pa k z.pc)) W0.heap.size z k := ⟨own_far2 (own_far2 h1 (by have := HZ.out; show _ < _; simp only; omega) _) (by have := HZ.out; show _ < _; simp only; omega) _, HO.out.ln⟩
    exact h2.ok
  · exact (HB1.out.setCell (by simp; omega) _).setCell (by simp; omega) _

set_option maxHeartbeats 1600000 in
theorem join_ff (x y : Nm) (n m : Nat) (w : World) (hx : NmOk w x n) (hy : NmOk w y m) (hn : n ≤ 400000) (hm : m ≤ 400000) :
    Calls Try.prog 18 #[.agg #[.bool false, .slice x.pa n x.pc], .agg #[.bool false, .slice y.pa m y.pc]] w (StIs w (joinS false x.row false y.row).1 (joinS false x.row false y.row).2) := by
  obtain ⟨W0, hW0⟩ : ∃ W0, W0 = ((w.alloc (.cells #[.bool false, .slice x.pa n x.pc] 29)).alloc (.cells #[.bool false, .slice y.pa m y.pc] 29)).alloc (.cells #[.bool false, .slice none 0 0] 29) := ⟨_, rfl⟩
  have hb0 : Below w.heap.size w W0 := by rw [hW0]; exact (((Below.refl _ _).alloc (Nat.le_refl _) _).alloc (by simp) _).alloc (by simp; omega) _
  have hk1 : Blk W0 w.heap.size 29 #[.bool false, .slice x.pa n x.pc] := by rw [hW0]; exact ((Blk.new w _ _).alloc _).alloc _
  have hk2 : Blk W0 (w.heap.size + 1) 29 #[.bool false, .slice y.pa m y.pc] := by rw [hW0]; exact (blk_at (Blk.new (w.alloc _) _ _) (by simp)).alloc _
  have hk3 : Blk W0 (w.heap.size + 1 + 1) 29 #[.bool false, .slice none 0 0] := by rw [hW0]; exact blk_at (Blk.new ((w.alloc _).alloc _) _ _) (by simp)
  have HB0 := Lib.hid hb0
  have HK3 := Lib.hid hk3
  have c0 := bx0 hk1
  have c1 := bx1 hk1
  have c2 := bx0 hk2
  have c3 := bx1 hk2
  have c4 := bx0 hk3
  have c5 := bx1 hk3
  have f4 := hk3.frozen 0
  have f5 := hk3.frozen 1
  have z3 := hk3.lt
  have hzz : W0.heap.size = w.heap.size + 1 + 1 + 1 := by rw [hW0]; simp
  have HZ := Lib.hid hzz
  have HE := Lib.hid (common_any x y n m W0 (hx.next hb0) (hy.next hb0) hn hm)
  have HW := Lib.hid hW0
  clear hx hy hb0 hk1 hk2 hk3 hzz
  go_enter Try.func18, Try.ntmps18
  go_upto_region 1 with fail
  rw [← HW.out]
  clear hW0
  go_wp2_with fail
  refine HE.out.mono ?_
  rintro r w1 ⟨z, k, rfl, hz, ho, hb1⟩
  have hk4 := HK3.out.below hb1 HK3.out.lt
  have HK4 := Lib.hid hk4
  have q0 := bx0 hk4
  have q1 := bx1 hk4
  have q2 := hk4.frozen 0
  have q3 := hk4.frozen 1
  have q4 := hk4.lt
  have HO := Lib.hid ho
  have HZr := Lib.hid hz
  have HB1 := Lib.hid (HB0.out.trans (hb1.mono HB0.out.size))
  clear ho hz hb1 hk4 c0 c1 c2 c3 c4 c5 f4 f5
  go_wp2
  have hk5 := (HK4.out.set_ 0 (.bool false)).set_ 1 (.slice z.pa k z.pc)
  have p0 := hk5.cell 0
  have p1 := hk5.cell 1
  simp at p0 p1
  refine bodyPost_ret (v := .agg #[.bool false, .slice z.pa k z.pc]) (by simp [results, Try.results18, go_sem, p0, p1]) rfl ⟨z, k, rfl, by rw [HZr.out]; first | rfl | (simp [joinS]), ?_, ?_⟩
  · have h1 : w1.ownsRow W0.heap.size 9 1 (.slice z.pa k z.pc) k (z.row.flatMap sC) := HO.out.own
    have h2 : NmOwn ((w1.setCell ⟨w.heap.size + 1 + 1, 0, none⟩ (.bool false)).setCell ⟨w.heap.size + 1 + 1, 1, none⟩ (.slice z.pa k z.pc)) W0.heap.size z k := ⟨own_far2 (own_far2 h1 (by have := HZ.out; show _ < _; simp only; omega) _) (by have := HZ.out; show _ < _; simp only; omega) _, HO.out.ln⟩
    exact h2.ok
  · exact (HB1.out.setCell (by simp; omega) _).setCell (by simp; omega) _

theorem join_any (ad bd : Bool) (x y : Nm) (n m : Nat) (w : World) (hx : NmOk w x n) (hy : NmOk w y m) (hn : n ≤ 400000) (hm : m ≤ 400000) :
    Calls Try.prog 18 #[.agg #[.bool ad, .slice x.pa n x.pc], .agg #[.bool bd, .slice y.pa m y.pc]] w (StIs w (joinS ad x.row bd y.row).1 (joinS ad x.row bd y.row).2) := by
  cases ad <;> cases bd
  · exact join_ff x y n m w hx hy hn hm
  · exact join_ft x y n m w hx hy hn hm
  · exact join_tf x y n m w hx hy hn hm
  · exact join_tt x y n m w hx hy hn hm

set_option maxHeartbeats 1600000 in
theorem less_bool (ad bd : Bool) (x y : Nm) (n m : Nat) {b : Bool} (hb : lessS ad x.row bd y.row = b) (w : World) (hx : NmOk w x n) (hy : NmOk w y m) (hn : n ≤ 400000) (hm : m ≤ 400000) :
    Calls Try.prog 21 #[.agg #[.bool ad, .slice x.pa n x.pc], .agg #[.bool bd, .slice y.pa m y.pc]] w fun r w' => r = .returned (.bool b) ∧ Below w.heap.size w w' := by
  have hb0 : Below w.heap.size w ((w.alloc (.cells #[.bool ad, .slice x.pa n x.pc] 29)).alloc (.cells #[.bool bd, .slice y.pa m y.pc] 29)) := ((Below.refl _ _).alloc (Nat.le_refl _) _).alloc (by simp) _
  have HB0 := Lib.hid hb0
  have HX := Lib.hid (hx.next hb0)
  have HY := Lib.hid (hy.next hb0)
  have HBB := Lib.hid hb
  clear hx hy hb0 hb
  cases bd
  · cases ad
    · have HC := Lib.hid (within_bool x y n m (b := b) (by rw [← HBB.out]; simp [lessS]) _ HX.out HY.out hn hm)
      go_enter Try.func21, Try.ntmps21
      go_wp2_with fail
      refine HC.out.mono ?_
      rintro r w1 ⟨rfl, h1⟩
      have HB1 := Lib.hid (HB0.out.trans (h1.mono HB0.out.size))
      clear h1
      go_wp2
      go_ret
      exact ⟨rfl, HB1.out⟩
    · have hbf : b = false := by rw [← HBB.out]; rfl
      subst hbf
      go_enter Try.func21, Try.ntmps21
      go_wp2_with fail
      go_ret
      exact ⟨rfl, HB0.out⟩
  · have hbf : b = true := by rw [← HBB.out]; rfl
    subst hbf
    go_enter Try.func21, Try.ntmps21
    go_wp2_with fail
    go_ret
    exact ⟨rfl, HB0.out⟩

end Go.Proofs.Ytfdgbegoaaihoaa
