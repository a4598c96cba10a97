/- Threads: ThreadsNil: a table that nobody made is none. For whatever number. -/
import Derived.Test.YtnhhinlhfaapcaaNa
namespace Go.Proofs.Ytnhhinlhfaapcaa
open Go.ChangeShapes Go.WideShapes Go.RowKit
set_option linter.unusedVariables false
set_option linter.unusedSimpArgs false

structure NilS (w W : World) (k : Nat) (p : Option Addr) : Prop where
  bel : Below w.heap.size w W
  tab : NilT W (.pointer p)
  c0 : W.cell? ⟨w.heap.size + 1, k, none⟩ = some (.pointer p)
  lt : w.heap.size + 1 < W.heap.size
theorem NilS.below {w W W' : World} {k : Nat} {p : Option Addr} (h : NilS w W k p) (hb : Below W.heap.size W W') : NilS w W' k p :=
  ⟨h.bel.trans (hb.mono h.bel.size), h.tab.below hb, (hb.cell (p := ⟨w.heap.size + 1, k, none⟩) h.lt).trans h.c0, Nat.lt_of_lt_of_le h.lt hb.size⟩
set_option maxRecDepth 100000 in
set_option maxHeartbeats 6400000 in
theorem threadsNil_walk (a0 : Int) (w : World) (i0 : (Lit.int .i64 a0).wf = true) :
    Calls Try.prog 8 #[.int .i64 a0] w fun e w' => e = .returned (.bool true) ∧ Below w.heap.size w w' := by
  clear i0
  go_enter Try.func8, Try.ntmps8
  go_wp2
  obtain ⟨w1, hw1⟩ : ∃ w1, w1 = (w.alloc (.cells #[.slice none 0 0] 56)).alloc (.cells #[.pointer none, .pointer (some ⟨w.heap.size, 0, none⟩)] 24) := ⟨_, rfl⟩
  rw [← hw1]
  have hB1 : Below w.heap.size w w1 := by rw [hw1]; exact ((Below.refl _ w).alloc (Nat.le_refl _) _).alloc (by simp) _
  have hl1 : w1.heap.size = w.heap.size + 2 := by rw [hw1]; simp
  have k1 : Blk w1 w.heap.size 56 #[.slice none 0 0] := by rw [hw1]; exact (Blk.new w 56 _).alloc _
  have k2 : Blk w1 (w.heap.size + 1) 24 #[.pointer none, .pointer (some ⟨w.heap.size, 0, none⟩)] := by
    have h := Blk.new (w.alloc (.cells #[.slice none 0 0] 56)) 24 #[.pointer none, .pointer (some ⟨w.heap.size, 0, none⟩)]
    rw [World.size_alloc] at h
    rw [hw1]; exact h
  have HS := Lib.hid (show ∀ k, k < 2 → ∃ p, NilS w w1 k p from fun k hk => by
    rcases (by omega : k = 0 ∨ k = 1) with rfl | rfl
    · exact ⟨none, hB1, .inl rfl, k2.cell 0, by omega⟩
    · exact ⟨_, hB1, .inr ⟨_, rfl, k1⟩, k2.cell 1, by omega⟩)
  have HB1 := Lib.hid hB1
  clear hw1 hl1 k1 k2 hB1
  go_loopw [5] (fun i wr => ∃ k : Nat, k ≤ 2 ∧ i = .int .i64 k ∧ Below w1.heap.size w1 wr) (fun i _ => 2 - (intOf i).toNat)
  case atStart => exact ⟨0, by omega, rfl, Below.refl _ _⟩
  case round =>
    obtain ⟨k, hk, rfl, hB⟩ := hrel
    have HB := Lib.hid hB
    clear hB
    by_cases hlt : k < 2
    · have hlI : (k : Int) < 2 := by omega
      obtain ⟨p, hp⟩ := HS.out k hlt
      have HA := Lib.hid (hp.below HB.out)
      have c0 := HA.out.c0
      clear hp
      go_wp2_with fail
      refine (spawn_nil (.pointer p) a0 _ HA.out.tab).mono ?_
      rintro r x0 ⟨rfl, rfl⟩
      go_wp2_with fail
      refine (close_nil p a0 _ HA.out.tab).mono ?_
      rintro r x1 ⟨rfl, hB⟩
      have HA := Lib.hid (HA.out.below hB)
      have HB := Lib.hid (HB.out.trans (hB.mono HB.out.size))
      clear hB c0
      have c0 := HA.out.c0
      go_wp2_with fail
      refine (open_nil (.pointer p) a0 _ HA.out.tab).mono ?_
      rintro r x2 ⟨rfl, rfl⟩
      go_wp2_with fail
      refine (end_nil (.pointer p) a0 true _ HA.out.tab).mono ?_
      rintro r x3 ⟨rfl, rfl⟩
      go_wp2_with fail
      refine (members_nil p a0 _ HA.out.tab).mono ?_
      rintro r x4 ⟨rfl, hB⟩
      have HA := Lib.hid (HA.out.below hB)
      have HB := Lib.hid (HB.out.trans (hB.mono HB.out.size))
      clear hB c0
      have c0 := HA.out.c0
      go_wp2_with fail
      refine (waits_nil p a0 _ HA.out.tab).mono ?_
      rintro r x5 ⟨rfl, hB⟩
      have HA := Lib.hid (HA.out.below hB)
      have HB := Lib.hid (HB.out.trans (hB.mono HB.out.size))
      clear hB c0
      have c0 := HA.out.c0
      go_wp2_with fail
      refine (runs_nil (.pointer p) a0 _ HA.out.tab).mono ?_
      rintro r x6 ⟨rfl, rfl⟩
      go_wp2_with fail
      refine (panicked_nil (.pointer p) a0 _ HA.out.tab).mono ?_
      rintro r x7 ⟨rfl, rfl⟩
      go_wp2_with fail
      refine (depth_nil (.pointer p) a0 _ HA.out.tab).mono ?_
      rintro r x8 ⟨rfl, rfl⟩
      go_wp2_with fail
      refine (parent_nil (.pointer p) a0 _ HA.out.tab).mono ?_
      rintro r x9 ⟨rfl, rfl⟩
      go_wp2_with fail
      refine (len_nil (.pointer p) _ HA.out.tab).mono ?_
      rintro r x10 ⟨rfl, rfl⟩
      go_wp2
      go_roundw
      case rel => exact ⟨k + 1, by omega, by go_num, HB.out⟩
      case measure => simp [intOf] <;> omega
    · obtain rfl : k = 2 := by omega
      go_wp2_with fail
      refine (awake_any _).mono ?_
      rintro r w9 ⟨rfl, hB9⟩
      have HB9 := Lib.hid ((HB1.out.trans (HB.out.mono HB1.out.size)).trans (hB9.mono (HB1.out.trans (HB.out.mono HB1.out.size)).size))
      clear hB9
      go_wp2
      go_ret
      exact ⟨rfl, HB9.out⟩
end Go.Proofs.Ytnhhinlhfaapcaa
