/- LocksNil: the walk. -/
import Derived.Test.YthbajgpoldajmaaN
namespace Go.Proofs.Ythbajgpoldajmaa
open Go.RowKit Go.ChangeMaps Go.MapKept
set_option linter.unusedVariables false

set_option maxRecDepth 100000 in
set_option maxHeartbeats 6400000 in
theorem locksNilWalk (x0 : Acte) (w : World) (g0 : x0.wf) :
    Calls Try.prog 3 #[.agg #[.int .i64 x0.kind, .int .i64 x0.id, .int .i64 x0.thread, .bool x0.poison]] w fun e w' => e = .returned (.bool true) ∧ Below w.heap.size w w' := by
  obtain ⟨kd, i, t, p⟩ := x0
  simp only
  obtain ⟨W, hW⟩ : ∃ W, W = ((w.alloc (.cells #[.int .i64 kd, .int .i64 i, .int .i64 t, .bool p] 23)).alloc (.cells #[.map none] 27)).alloc (.cells #[.pointer none, .pointer (some ⟨w.heap.size + 1, 0, none⟩)] 24) := ⟨_, rfl⟩
  have hs : W.heap.size = w.heap.size + 1 + 1 + 1 := by rw [hW]; simp
  have ha : Blk W w.heap.size 23 #[.int .i64 kd, .int .i64 i, .int .i64 t, .bool p] := by rw [hW]; exact ((Blk.new w 23 _).alloc _).alloc _
  have hm : Blk W (w.heap.size + 1) 27 #[.map none] := by
    have := Blk.new (w.alloc (.cells #[.int .i64 kd, .int .i64 i, .int .i64 t, .bool p] 23)) 27 #[.map none]
    rw [World.size_alloc] at this
    rw [hW]; exact this.alloc _
  have hl : Blk W (w.heap.size + 1 + 1) 24 #[.pointer none, .pointer (some ⟨w.heap.size + 1, 0, none⟩)] := by
    have := Blk.new ((w.alloc (.cells #[.int .i64 kd, .int .i64 i, .int .i64 t, .bool p] 23)).alloc (.cells #[.map none] 27)) 24 #[.pointer none, .pointer (some ⟨w.heap.size + 1, 0, none⟩)]
    rw [World.size_alloc, World.size_alloc] at this
    rw [hW]; exact this
  have hbW : Below w.heap.size w W := by rw [hW]; exact (((Below.refl _ w).alloc (Nat.le_refl _) _).alloc (by simp) _).alloc (by simp; omega) _
  have act : ∀ W', Below W.heap.size W W' → W'.cell? ⟨w.heap.size, 1, none⟩ = some (.int .i64 i) ∧ W'.cell? ⟨w.heap.size, 2, none⟩ = some (.int .i64 t) ∧ W'.cell? ⟨w.heap.size, 3, none⟩ = some (.bool p) := by
    intro W' h
    have hb := ha.below h (by omega)
    exact ⟨hb.cell 1, hb.cell 2, hb.cell 3⟩
  have lst : ∀ W', Below W.heap.size W W' → W'.cell? ⟨w.heap.size + 1 + 1, 0, none⟩ = some (.pointer none) ∧ W'.cell? ⟨w.heap.size + 1 + 1, 1, none⟩ = some (.pointer (some ⟨w.heap.size + 1, 0, none⟩)) := by
    intro W' h
    have hb := hl.below h (by omega)
    exact ⟨hb.cell 0, hb.cell 1⟩
  have nil : ∀ W', Below W.heap.size W W' → NilL W' (.pointer none) ∧ NilL W' (.pointer (some ⟨w.heap.size + 1, 0, none⟩)) := by
    intro W' h
    exact ⟨.inl rfl, .inr ⟨_, rfl, hm.below h (by omega)⟩⟩
  have ACT := Lib.hid act
  have LST := Lib.hid lst
  have NIL := Lib.hid nil
  have HBW := Lib.hid hbW
  have HWW := Lib.hid hW
  clear act lst nil hbW ha hm hl hs g0 hW
  go_enter Try.func3, Try.ntmps3
  go_wp2
  rw [← HWW.out]
  go_loopw [5] (fun v wr => ∃ k : Nat, k ≤ 2 ∧ v = .int .i64 k ∧ Below W.heap.size W wr) (fun v _ => 2 - (intOf v).toNat)
  case atStart => exact ⟨0, by omega, rfl, Below.refl _ _⟩
  case round =>
    obtain ⟨k, hk, rfl, B0⟩ := hrel
    rcases Nat.lt_or_ge k 2 with hlt | hge
    · have hk2 : k = 0 ∨ k = 1 := by omega
      rcases hk2 with rfl | rfl
      ·
        obtain ⟨l0, l1⟩ := LST.out wr B0
        obtain ⟨d1, d2, d3⟩ := ACT.out wr B0
        go_wp2_with fail
        refine (make_nil (i := i) (NIL.out _ B0).1).mono ?_
        rintro r wz1 ⟨rfl, hb⟩
        have B1 := B0.trans (hb.mono B0.size)
        clear hb B0 d1 d2 d3 l0 l1
        obtain ⟨d1, d2, d3⟩ := ACT.out wz1 B1
        go_wp2_with fail
        refine (lock_nil (i := i) (t := t) (NIL.out _ B1).1).mono ?_
        rintro r wz2 ⟨rfl, hb⟩
        have B2 := B1.trans (hb.mono B1.size)
        clear hb B1 d1 d2 d3
        obtain ⟨d1, d2, d3⟩ := ACT.out wz2 B2
        go_wp2_with fail
        refine (unlock_nil (i := i) (t := t) (p := p) (NIL.out _ B2).1).mono ?_
        rintro r wz3 ⟨rfl, hb⟩
        have B3 := B2.trans (hb.mono B2.size)
        clear hb B2 d1 d2 d3
        obtain ⟨d1, d2, d3⟩ := ACT.out wz3 B3
        go_wp2_with fail
        refine (drop_nil (i := i) (NIL.out _ B3).1).mono ?_
        rintro r wz4 ⟨rfl, hb⟩
        have B4 := B3.trans (hb.mono B3.size)
        clear hb B3 d1 d2 d3
        obtain ⟨d1, d2, d3⟩ := ACT.out wz4 B4
        go_wp2_with fail
        refine (holder_nil (i := i) (NIL.out _ B4).1).mono ?_
        rintro r wz5 ⟨rfl, hb⟩
        have B5 := B4.trans (hb.mono B4.size)
        clear hb B4 d1 d2 d3
        obtain ⟨d1, d2, d3⟩ := ACT.out wz5 B5
        go_wp2_with fail
        refine (poisoned_nil (i := i) (NIL.out _ B5).1).mono ?_
        rintro r wz6 ⟨rfl, hb⟩
        have B6 := B5.trans (hb.mono B5.size)
        clear hb B5 d1 d2 d3
        obtain ⟨d1, d2, d3⟩ := ACT.out wz6 B6
        go_wp2
        go_roundw
        case rel => exact ⟨1, by omega, by go_num, B6⟩
        case measure => simp [intOf] <;> omega
      ·
        obtain ⟨l0, l1⟩ := LST.out wr B0
        obtain ⟨d1, d2, d3⟩ := ACT.out wr B0
        go_wp2_with fail
        refine (make_nil (i := i) (NIL.out _ B0).2).mono ?_
        rintro r wz1 ⟨rfl, hb⟩
        have B1 := B0.trans (hb.mono B0.size)
        clear hb B0 d1 d2 d3 l0 l1
        obtain ⟨d1, d2, d3⟩ := ACT.out wz1 B1
        go_wp2_with fail
        refine (lock_nil (i := i) (t := t) (NIL.out _ B1).2).mono ?_
        rintro r wz2 ⟨rfl, hb⟩
        have B2 := B1.trans (hb.mono B1.size)
        clear hb B1 d1 d2 d3
        obtain ⟨d1, d2, d3⟩ := ACT.out wz2 B2
        go_wp2_with fail
        refine (unlock_nil (i := i) (t := t) (p := p) (NIL.out _ B2).2).mono ?_
        rintro r wz3 ⟨rfl, hb⟩
        have B3 := B2.trans (hb.mono B2.size)
        clear hb B2 d1 d2 d3
        obtain ⟨d1, d2, d3⟩ := ACT.out wz3 B3
        go_wp2_with fail
        refine (drop_nil (i := i) (NIL.out _ B3).2).mono ?_
        rintro r wz4 ⟨rfl, hb⟩
        have B4 := B3.trans (hb.mono B3.size)
        clear hb B3 d1 d2 d3
        obtain ⟨d1, d2, d3⟩ := ACT.out wz4 B4
        go_wp2_with fail
        refine (holder_nil (i := i) (NIL.out _ B4).2).mono ?_
        rintro r wz5 ⟨rfl, hb⟩
        have B5 := B4.trans (hb.mono B4.size)
        clear hb B4 d1 d2 d3
        obtain ⟨d1, d2, d3⟩ := ACT.out wz5 B5
        go_wp2_with fail
        refine (poisoned_nil (i := i) (NIL.out _ B5).2).mono ?_
        rintro r wz6 ⟨rfl, hb⟩
        have B6 := B5.trans (hb.mono B5.size)
        clear hb B5 d1 d2 d3
        obtain ⟨d1, d2, d3⟩ := ACT.out wz6 B6
        go_wp2
        go_roundw
        case rel => exact ⟨2, by omega, by go_num, B6⟩
        case measure => simp [intOf] <;> omega
    · obtain rfl : k = 2 := by omega
      go_wp2
      go_ret
      exact ⟨rfl, HBW.out.trans (B0.mono HBW.out.size)⟩
end Go.Proofs.Ythbajgpoldajmaa
