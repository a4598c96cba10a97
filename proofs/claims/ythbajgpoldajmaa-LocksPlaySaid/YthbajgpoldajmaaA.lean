/- Locks: contracts of the program's methods: each does to the memory just what the chapter says of the locks as a function. -/
import Derived.Test.YthbajgpoldajmaaChecked
import Derived.Test.YthbajgpoldajmaaKit
import Derived.StillTailTactics
import Derived.Defers
namespace Go.Proofs.Ythbajgpoldajmaa
open Go.RowKit Go.ChangeMaps Go.MapKept
open Go.Maps (Keyed)
set_option linter.unusedVariables false

theorem law3 : Keyed Try.prog 3 := Go.Maps.int_keyed Try.underlying3
theorem key3 {i : Int} (hi : (Lit.int .i64 i).wf = true) : ∃ l, keyOf Try.prog 3 (.int .i64 i) = some l := ⟨_, Go.Maps.keyOf_int_mk Try.underlying3 hi⟩
def mutV (x : Int × Bool) : Value := .agg #[.int .i64 x.1, .bool x.2]
theorem zero52 (w : World) : (zeroValue 52).run Try.prog w = .ok (mutV (0, false)) w := by kernel_rfl

/-- locks, as a function: each number's mutex: its holder (-1: nobody), whether it is poisoned -/
abbrev LS := Int → Option (Int × Bool)
def LIs (w : World) (gc gm N : Nat) (S : LS) : Prop :=
  ∃ f, Blk w gc 27 #[.map (some gm)] ∧ MapIs Try.prog 3 w gm N f ∧ (∀ i, (Lit.int .i64 i).wf = true → f (.int .i64 i) = (S i).map mutV) ∧ ∀ i x, S i = some x → -1 ≤ x.1 ∧ x.1 ≤ 9223372036854775807
def ptr (g : Nat) : Value := .pointer (some ⟨g, 0, none⟩)
def findV (S : LS) (i : Int) : Int × Bool := (S i).getD (-1, false)

theorem none_any (gc gm : Nat) (w : World) (h : Blk w gc 27 #[.map (some gm)]) :
    Calls Try.prog 22 #[.pointer (some ⟨gc, 0, none⟩)] w fun r w' => r = .returned (.bool false) ∧ w = w' := by
  have h0 := h.cell 0
  simp at h0
  have hn := fun (w : World) (r : Option Nat) => run_eql_map_nil (P := Try.prog) w 25 3 52 r Try.underlying25
  go_enter Try.func22, Try.ntmps22
  go_wp2
  go_ret
  exact ⟨rfl, rfl⟩

theorem find_any (gc gm N : Nat) (S : LS) (i : Int) (w : World) (h : LIs w gc gm N S) (hi : (Lit.int .i64 i).wf = true) :
    Calls Try.prog 21 #[.pointer (some ⟨gc, 0, none⟩), .int .i64 i] w fun r w' => r = .returned (.tuple #[.agg #[.int .i64 (findV S i).1, .bool (findV S i).2], .bool (S i).isSome]) ∧ Below w.heap.size w w' := by
  obtain ⟨f, hb, hm, hf, _⟩ := h
  have hnn := none_any gc gm (w.alloc (.cells #[.int .i64 0, .bool false] 52)) (hb.alloc _)
  have hbx := hb.alloc (.cells #[.int .i64 0, .bool false] 52)
  have h0 := hbx.cell 0
  simp at h0
  have hlt : gc < w.heap.size := hb.lt
  obtain ⟨kl, hk⟩ := key3 hi
  have hrun := (hm.alloc (.cells #[.int .i64 0, .bool false] 52)).lookup law3 Try.underlying25 (zero52 _) hk true
  rw [hf i hi] at hrun
  cases hS : S i with
  | none =>
    rw [hS] at hrun
    simp [mutV] at hrun
    have hv : findV S i = (-1, false) := by unfold findV; rw [hS]; rfl
    rw [hv]
    clear hf hm hbx hS hv hb
    go_enter Try.func21, Try.ntmps21
    go_wp2_with (go_at_call 22; refine hnn.mono ?_; rintro r w' ⟨rfl, rfl⟩)
    refine ⟨rfl, .tuple #[.agg #[.int .i64 (-1), .bool false], .bool false], ?_, rfl, ?_⟩
    · simp [results, Try.f21, go_sem]
    · exact ((Below.refl _ w).alloc (Nat.le_refl _) _).alloc (by simp) _
  | some x =>
    rw [hS] at hrun
    simp [mutV] at hrun
    have hv : findV S i = x := by unfold findV; rw [hS]; rfl
    rw [hv]
    clear hf hm hbx hS hv hb
    go_enter Try.func21, Try.ntmps21
    go_wp2_with (go_at_call 22; refine hnn.mono ?_; rintro r w' ⟨rfl, rfl⟩)
    refine ⟨rfl, .tuple #[.agg #[.int .i64 x.1, .bool x.2], .bool true], ?_, rfl, ?_⟩
    · simp [results, Try.f21, go_sem]
    · exact ((Below.refl _ w).alloc (Nat.le_refl _) _).alloc (by simp) _
end Go.Proofs.Ythbajgpoldajmaa
