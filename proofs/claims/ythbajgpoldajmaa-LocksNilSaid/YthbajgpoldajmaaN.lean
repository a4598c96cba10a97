/- LocksNil: locks that nobody made: the contracts, and the walk. -/
import Derived.Test.YthbajgpoldajmaaE
namespace Go.Proofs.Ythbajgpoldajmaa
open Go.RowKit Go.ChangeMaps Go.MapKept
set_option linter.unusedVariables false

def NilL (w : World) (m : Value) : Prop := m = .pointer none ∨ ∃ g, m = .pointer (some ⟨g, 0, none⟩) ∧ Blk w g 27 #[.map none]
theorem NilL.below {w w' : World} {m : Value} {B : Nat} (h : NilL w m) (hb : Below B w w') (hB : w.heap.size ≤ B) : NilL w' m := by
  rcases h with h | ⟨g, h, hk⟩
  · exact .inl h
  · exact .inr ⟨g, h, hk.below hb (by have := hk.lt; omega)⟩
theorem NilL.alloc {w : World} {m : Value} (h : NilL w m) (o : Obj) : NilL (w.alloc o) m := by
  rcases h with h | ⟨g, h, hk⟩
  · exact .inl h
  · exact .inr ⟨g, h, hk.alloc o⟩

theorem none_nil {m : Value} {w : World} (h : NilL w m) : Calls Try.prog 22 #[m] w fun r w' => r = .returned (.bool true) ∧ w = w' := by
  have hn := fun (w : World) (r : Option Nat) => run_eql_map_nil (P := Try.prog) w 25 3 52 r Try.underlying25
  rcases h with rfl | ⟨g, rfl, hb⟩
  · go_enter Try.func22, Try.ntmps22
    go_wp2
    go_ret
    exact ⟨rfl, rfl⟩
  · have h0 := hb.cell 0
    have e0 : (#[Value.map none] : Array Value)[0]? = some (.map none) := rfl
    rw [e0] at h0
    go_enter Try.func22, Try.ntmps22
    go_wp2
    go_ret
    exact ⟨rfl, rfl⟩
theorem find_nil {m : Value} {i : Int} {w : World} (h : NilL w m) : Calls Try.prog 21 #[m, .int .i64 i] w fun r w' => r = .returned (.tuple #[.agg #[.int .i64 (-1), .bool false], .bool false]) ∧ Below w.heap.size w w' := by
  have hn := none_nil (h.alloc (.cells #[.int .i64 0, .bool false] 52))
  rcases h with rfl | ⟨g, rfl, hb⟩
  all_goals
    go_enter Try.func21, Try.ntmps21
    go_wp2_with fail
    refine hn.mono ?_
    rintro r w' ⟨rfl, rfl⟩
    go_wp2
    refine ⟨rfl, .tuple #[.agg #[.int .i64 (-1), .bool false], .bool false], ?_, rfl, ?_⟩
    · simp [results, Try.f21, go_sem]
    · exact (Below.refl _ w).alloc (Nat.le_refl _) _
theorem make_nil {m : Value} {i : Int} {w : World} (h : NilL w m) : Calls Try.prog 9 #[m, .int .i64 i] w fun r w' => r = .returned (.tuple #[]) ∧ Below w.heap.size w w' := by
  have hc := find_nil (i := i) h
  have HL := Lib.hid h
  rcases h with rfl | ⟨g, rfl, hb⟩
  all_goals
    go_enter Try.func9, Try.ntmps9
    go_wp2_with fail
    refine hc.mono ?_
    rintro r w1 ⟨rfl, hb1⟩
    have hn := none_nil ((HL.out.below hb1 (Nat.le_refl _)).alloc (.cells #[.int .i64 (-1), .bool false] 52))
    go_wp2_with fail
    refine hn.mono ?_
    rintro r w' ⟨rfl, rfl⟩
    go_wp2
    go_end0
    exact ⟨rfl, hb1.alloc hb1.size _⟩
theorem holder_nil {m : Value} {i : Int} {w : World} (h : NilL w m) : Calls Try.prog 13 #[m, .int .i64 i] w fun r w' => r = .returned (.int .i64 (-1)) ∧ Below w.heap.size w w' := by
  have hc := find_nil (i := i) h
  rcases h with rfl | ⟨g, rfl, hb⟩
  all_goals
    go_enter Try.func13, Try.ntmps13
    go_wp2_with fail
    refine hc.mono ?_
    rintro r w1 ⟨rfl, hb1⟩
    go_wp2
    go_ret
    exact ⟨rfl, hb1.alloc hb1.size _⟩
theorem poisoned_nil {m : Value} {i : Int} {w : World} (h : NilL w m) : Calls Try.prog 14 #[m, .int .i64 i] w fun r w' => r = .returned (.bool false) ∧ Below w.heap.size w w' := by
  have hc := find_nil (i := i) h
  rcases h with rfl | ⟨g, rfl, hb⟩
  all_goals
    go_enter Try.func14, Try.ntmps14
    go_wp2_with fail
    refine hc.mono ?_
    rintro r w1 ⟨rfl, hb1⟩
    go_wp2
    go_ret
    exact ⟨rfl, hb1.alloc hb1.size _⟩
theorem drop_nil {m : Value} {i : Int} {w : World} (h : NilL w m) : Calls Try.prog 12 #[m, .int .i64 i] w fun r w' => r = .returned (.int .u8 6) ∧ Below w.heap.size w w' := by
  have hc := find_nil (i := i) h
  have HL := Lib.hid h
  rcases h with rfl | ⟨g, rfl, hb⟩
  all_goals
    go_enter Try.func12, Try.ntmps12
    go_wp2_with fail
    refine hc.mono ?_
    rintro r w1 ⟨rfl, hb1⟩
    have hn := none_nil ((HL.out.below hb1 (Nat.le_refl _)).alloc (.cells #[.int .i64 (-1), .bool false] 52))
    go_wp2_with fail
    refine hn.mono ?_
    rintro r w' ⟨rfl, rfl⟩
    go_wp2
    go_ret
    exact ⟨rfl, hb1.alloc hb1.size _⟩
theorem lock_nil {m : Value} {i t : Int} {w : World} (h : NilL w m) : Calls Try.prog 10 #[m, .int .i64 i, .int .i64 t] w fun r w' => r = .returned (.bool false) ∧ Below w.heap.size w w' := by
  have hc := find_nil (i := i) ((h.alloc (.cells #[m] 24)).alloc (.cells #[.int .i64 i] 3))
  rcases h with rfl | ⟨g, rfl, hb⟩
  all_goals
    go_enter_defers Try.func10, Try.ntmps10
    go_wp2_with fail
    refine hc.mono ?_
    rintro r w1 ⟨rfl, hb1⟩
    have hb2 := (((Below.refl _ w).alloc (Nat.le_refl _) _).alloc (by simp) _).trans (hb1.mono (by simp; omega))
    go_wp2
    exact ⟨_, results_tmp rfl _ _ _, rfl, hb2.alloc hb2.size _⟩
theorem unlock_nil {m : Value} {i t : Int} {p : Bool} {w : World} (h : NilL w m) : Calls Try.prog 11 #[m, .int .i64 i, .int .i64 t, .bool p] w fun r w' => r = .returned (.int .u8 6) ∧ Below w.heap.size w w' := by
  have hc := find_nil (i := i) ((h.alloc (.cells #[m] 24)).alloc (.cells #[.int .i64 i] 3))
  have HL := Lib.hid ((h.alloc (.cells #[m] 24)).alloc (.cells #[.int .i64 i] 3))
  have HB := Lib.hid (Blk.alloc (Blk.new w 24 #[m]) (.cells #[.int .i64 i] 3))
  rcases h with rfl | ⟨g, rfl, hb⟩
  all_goals
    go_enter_defers Try.func11, Try.ntmps11
    go_wp2_with fail
    refine hc.mono ?_
    rintro r w1 ⟨rfl, hb1⟩
    have hb2 := (((Below.refl _ w).alloc (Nat.le_refl _) _).alloc (by simp) _).trans (hb1.mono (by simp; omega))
    have hn := none_nil ((HL.out.below hb1 (Nat.le_refl _)).alloc (.cells #[.int .i64 (-1), .bool false] 52))
    have l0 := ((HB.out.below hb1 (by simp; omega)).alloc (.cells #[.int .i64 (-1), .bool false] 52)).cell 0
    rw [show ∀ v : Value, (#[v] : Array Value)[0]? = some v from fun _ => rfl] at l0
    go_wp2_with fail
    refine hn.mono ?_
    rintro r w' ⟨rfl, rfl⟩
    go_wp2
    exact ⟨_, results_tmp rfl _ _ _, rfl, hb2.alloc hb2.size _⟩
end Go.Proofs.Ythbajgpoldajmaa
