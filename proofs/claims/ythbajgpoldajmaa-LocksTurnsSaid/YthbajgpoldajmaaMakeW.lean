/- LocksMake: the walk. -/
import Derived.Test.YthbajgpoldajmaaD
namespace Go.Proofs.Ythbajgpoldajmaa
open Go.RowKit Go.ChangeMaps Go.MapKept
set_option linter.unusedVariables false
set_option linter.unusedSimpArgs false

def E0 : LS := fun _ => none
def one (i : Int) (x : Int × Bool) : LS := setS E0 i (some x)
theorem one_at (i : Int) (x : Int × Bool) : one i x i = some x := setS_same _ _ _
theorem one_find (i : Int) (x : Int × Bool) : findV (one i x) i = x := by unfold findV; rw [one_at]; rfl
theorem one_set (i : Int) (x y : Int × Bool) : setS (one i x) i (some y) = one i y := by funext j; unfold one setS; split <;> rfl
theorem one_del (i : Int) (x : Int × Bool) : setS (one i x) i none = E0 := by funext j; unfold one setS E0; split <;> rfl
theorem E0_at (i : Int) : E0 i = none := rfl
theorem E0_find (i : Int) : findV E0 i = (-1, false) := rfl
theorem E0_del (i : Int) : setS E0 i none = E0 := by funext j; unfold setS E0; split <;> rfl
theorem E0_one (i : Int) (x : Int × Bool) : setS E0 i (some x) = one i x := rfl

set_option maxRecDepth 100000 in
set_option maxHeartbeats 6400000 in
theorem locksMakeWalk (a0 : Int) (a1 : Int) (a2 : Bool) (w : World) (i0 : (Lit.int .i64 a0).wf = true) (i1 : (Lit.int .i64 a1).wf = true) :
    Calls Try.prog 8 #[.int .i64 a0, .int .i64 a1, .bool a2] w fun e w' => e = .returned (.bool true) ∧ Below w.heap.size w w' := by
  have HI0 := Lib.hid i0
  have HI1 := Lib.hid i1
  clear i0 i1
  by_cases ht : 0 ≤ a1
  ·
    have hd : decide (0 ≤ a1) = true := by simpa using ht
    have HT := Lib.hid ht
    clear ht
    go_enter Try.func8, Try.ntmps8
    go_wp2_with fail
    refine (awake_any w).mono ?_
    rintro r wa ⟨rfl, hBa⟩
    go_wp2_with fail
    refine (new_any wa).mono ?_
    rintro r w0 ⟨gc, gm, rfl, hL0, hb, hgm, hgc⟩
    have hL0 : LIs w0 gc gm 0 E0 := hL0
    have HGM := Lib.hid (show w.heap.size ≤ gm from Nat.le_trans hBa.size hgm)
    have hB0 := hBa.trans (hb.mono hBa.size)
    clear hgm hgc hb hBa
    go_wp2_with fail
    refine (drop_any (i := a0) E0 0 hL0 HI0.out (by simp [makeS, lockS, lockB, unlockS, unlockB, unlockR, dropS, dropR, one_find, one_at, one_set, one_del, E0_at, E0_find, E0_del, E0_one]) (by simp [makeS, lockS, lockB, unlockS, unlockB, unlockR, dropS, dropR, one_find, one_at, one_set, one_del, E0_at, E0_find, E0_del, E0_one])).mono ?_
    rintro r w1 ⟨rfl, hL1, hg⟩
    have hB1 : Below w.heap.size w w1 := hB0.grown hg hB0.size (fun k e => by cases e; exact HGM.out)
    clear hg hL0 hB0
    go_wp2_with fail
    refine (holder_any (i := a0) (-1) hL1 HI0.out (by simp [makeS, lockS, lockB, unlockS, unlockB, unlockR, dropS, dropR, one_find, one_at, one_set, one_del, E0_at, E0_find, E0_del, E0_one])).mono ?_
    rintro r w2 ⟨rfl, hb⟩
    have hL2 := hL1.below hb (Nat.le_refl _)
    have hB2 := hB1.trans (hb.mono hB1.size)
    clear hb hL1 hB1
    go_wp2_with fail
    refine (lock_any (i := a0) (t := a1) E0 false hL2 HI0.out HI1.out (by simp [makeS, lockS, lockB, unlockS, unlockB, unlockR, dropS, dropR, one_find, one_at, one_set, one_del, E0_at, E0_find, E0_del, E0_one]) (by simp [makeS, lockS, lockB, unlockS, unlockB, unlockR, dropS, dropR, one_find, one_at, one_set, one_del, E0_at, E0_find, E0_del, E0_one])).mono ?_
    rintro r w3 ⟨rfl, hL3, hg⟩
    have hB3 : Below w.heap.size w w3 := hB2.grown hg hB2.size (fun k e => by cases e; exact HGM.out)
    clear hg hL2 hB2
    go_wp2_with fail
    refine (make_any (i := a0) (one a0 (-1, false)) hL3 HI0.out (by simp [makeS, lockS, lockB, unlockS, unlockB, unlockR, dropS, dropR, one_find, one_at, one_set, one_del, E0_at, E0_find, E0_del, E0_one])).mono ?_
    rintro r w4 ⟨rfl, hL4, hg⟩
    have hB4 : Below w.heap.size w w4 := hB3.grown hg hB3.size (fun k e => by cases e; exact HGM.out)
    clear hg hL3 hB3
    go_wp2_with fail
    refine (lock_any (i := a0) (t := a1) (one a0 (a1, false)) true hL4 HI0.out HI1.out (by simp [makeS, lockS, lockB, unlockS, unlockB, unlockR, dropS, dropR, one_find, one_at, one_set, one_del, E0_at, E0_find, E0_del, E0_one, HT.out]) (by simp [makeS, lockS, lockB, unlockS, unlockB, unlockR, dropS, dropR, one_find, one_at, one_set, one_del, E0_at, E0_find, E0_del, E0_one, HT.out])).mono ?_
    rintro r w5 ⟨rfl, hL5, hg⟩
    have hB5 : Below w.heap.size w w5 := hB4.grown hg hB4.size (fun k e => by cases e; exact HGM.out)
    clear hg hL4 hB4
    go_wp2_with fail
    refine (make_any (i := a0) (one a0 (a1, false)) hL5 HI0.out (by simp [makeS, lockS, lockB, unlockS, unlockB, unlockR, dropS, dropR, one_find, one_at, one_set, one_del, E0_at, E0_find, E0_del, E0_one])).mono ?_
    rintro r w6 ⟨rfl, hL6, hg⟩
    have hB6 : Below w.heap.size w w6 := hB5.grown hg hB5.size (fun k e => by cases e; exact HGM.out)
    clear hg hL5 hB5
    go_wp2_with fail
    refine (holder_any (i := a0) a1 hL6 HI0.out (by simp [makeS, lockS, lockB, unlockS, unlockB, unlockR, dropS, dropR, one_find, one_at, one_set, one_del, E0_at, E0_find, E0_del, E0_one])).mono ?_
    rintro r w7 ⟨rfl, hb⟩
    have hL7 := hL6.below hb (Nat.le_refl _)
    have hB7 := hB6.trans (hb.mono hB6.size)
    clear hb hL6 hB6
    go_wp2_with fail
    refine (drop_any (i := a0) (one a0 (a1, false)) 4 hL7 HI0.out (by simp [makeS, lockS, lockB, unlockS, unlockB, unlockR, dropS, dropR, one_find, one_at, one_set, one_del, E0_at, E0_find, E0_del, E0_one, HT.out]) (by simp [makeS, lockS, lockB, unlockS, unlockB, unlockR, dropS, dropR, one_find, one_at, one_set, one_del, E0_at, E0_find, E0_del, E0_one, HT.out])).mono ?_
    rintro r w8 ⟨rfl, hL8, hg⟩
    have hB8 : Below w.heap.size w w8 := hB7.grown hg hB7.size (fun k e => by cases e; exact HGM.out)
    clear hg hL7 hB7
    go_wp2_with fail
    refine (unlock_any (i := a0) (t := a1) (po := a2) (one a0 (-1, a2)) 0 hL8 HI0.out (by simp [makeS, lockS, lockB, unlockS, unlockB, unlockR, dropS, dropR, one_find, one_at, one_set, one_del, E0_at, E0_find, E0_del, E0_one, HT.out]) (by simp [makeS, lockS, lockB, unlockS, unlockB, unlockR, dropS, dropR, one_find, one_at, one_set, one_del, E0_at, E0_find, E0_del, E0_one, HT.out])).mono ?_
    rintro r w9 ⟨rfl, hL9, hg⟩
    have hB9 : Below w.heap.size w w9 := hB8.grown hg hB8.size (fun k e => by cases e; exact HGM.out)
    clear hg hL8 hB8
    go_wp2_with fail
    refine (poisoned_any (i := a0) a2 hL9 HI0.out (by simp [makeS, lockS, lockB, unlockS, unlockB, unlockR, dropS, dropR, one_find, one_at, one_set, one_del, E0_at, E0_find, E0_del, E0_one])).mono ?_
    rintro r w10 ⟨rfl, hb⟩
    have hL10 := hL9.below hb (Nat.le_refl _)
    have hB10 := hB9.trans (hb.mono hB9.size)
    clear hb hL9 hB9
    have hpp : (a2 != a2) = false := by simp
    go_wp2_with fail
    refine (drop_any (i := a0) E0 0 hL10 HI0.out (by simp [makeS, lockS, lockB, unlockS, unlockB, unlockR, dropS, dropR, one_find, one_at, one_set, one_del, E0_at, E0_find, E0_del, E0_one]) (by simp [makeS, lockS, lockB, unlockS, unlockB, unlockR, dropS, dropR, one_find, one_at, one_set, one_del, E0_at, E0_find, E0_del, E0_one])).mono ?_
    rintro r w11 ⟨rfl, hL11, hg⟩
    have hB11 : Below w.heap.size w w11 := hB10.grown hg hB10.size (fun k e => by cases e; exact HGM.out)
    clear hg hL10 hB10
    go_wp2_with fail
    refine (poisoned_any (i := a0) false hL11 HI0.out (by simp [makeS, lockS, lockB, unlockS, unlockB, unlockR, dropS, dropR, one_find, one_at, one_set, one_del, E0_at, E0_find, E0_del, E0_one])).mono ?_
    rintro r w12 ⟨rfl, hb⟩
    have hL12 := hL11.below hb (Nat.le_refl _)
    have hB12 := hB11.trans (hb.mono hB11.size)
    clear hb hL11 hB11
    go_wp2_with fail
    refine (lock_any (i := a0) (t := a1) E0 false hL12 HI0.out HI1.out (by simp [makeS, lockS, lockB, unlockS, unlockB, unlockR, dropS, dropR, one_find, one_at, one_set, one_del, E0_at, E0_find, E0_del, E0_one]) (by simp [makeS, lockS, lockB, unlockS, unlockB, unlockR, dropS, dropR, one_find, one_at, one_set, one_del, E0_at, E0_find, E0_del, E0_one])).mono ?_
    rintro r w13 ⟨rfl, hL13, hg⟩
    have hB13 : Below w.heap.size w w13 := hB12.grown hg hB12.size (fun k e => by cases e; exact HGM.out)
    clear hg hL12 hB12
    go_wp2_with fail
    refine (make_any (i := a0) (one a0 (-1, false)) hL13 HI0.out (by simp [makeS, lockS, lockB, unlockS, unlockB, unlockR, dropS, dropR, one_find, one_at, one_set, one_del, E0_at, E0_find, E0_del, E0_one])).mono ?_
    rintro r w14 ⟨rfl, hL14, hg⟩
    have hB14 : Below w.heap.size w w14 := hB13.grown hg hB13.size (fun k e => by cases e; exact HGM.out)
    clear hg hL13 hB13
    go_wp2_with fail
    refine (poisoned_any (i := a0) false hL14 HI0.out (by simp [makeS, lockS, lockB, unlockS, unlockB, unlockR, dropS, dropR, one_find, one_at, one_set, one_del, E0_at, E0_find, E0_del, E0_one])).mono ?_
    rintro r w15 ⟨rfl, hb⟩
    have hL15 := hL14.below hb (Nat.le_refl _)
    have hB15 := hB14.trans (hb.mono hB14.size)
    clear hb hL14 hB14
    go_wp2_with fail
    refine (holder_any (i := a0) (-1) hL15 HI0.out (by simp [makeS, lockS, lockB, unlockS, unlockB, unlockR, dropS, dropR, one_find, one_at, one_set, one_del, E0_at, E0_find, E0_del, E0_one])).mono ?_
    rintro r w16 ⟨rfl, hb⟩
    have hL16 := hL15.below hb (Nat.le_refl _)
    have hB16 := hB15.trans (hb.mono hB15.size)
    clear hb hL15 hB15
    go_wp2_with fail
    refine (lock_any (i := a0) (t := a1) (one a0 (a1, false)) true hL16 HI0.out HI1.out (by simp [makeS, lockS, lockB, unlockS, unlockB, unlockR, dropS, dropR, one_find, one_at, one_set, one_del, E0_at, E0_find, E0_del, E0_one, HT.out]) (by simp [makeS, lockS, lockB, unlockS, unlockB, unlockR, dropS, dropR, one_find, one_at, one_set, one_del, E0_at, E0_find, E0_del, E0_one, HT.out])).mono ?_
    rintro r w17 ⟨rfl, hL17, hg⟩
    have hB17 : Below w.heap.size w w17 := hB16.grown hg hB16.size (fun k e => by cases e; exact HGM.out)
    clear hg hL16 hB16
    go_wp2
    go_ret
    exact ⟨rfl, hB17⟩
  ·
    have hd : decide (0 ≤ a1) = false := by simpa using ht
    have HT := Lib.hid (Int.not_le.1 ht)
    clear ht
    go_enter Try.func8, Try.ntmps8
    go_wp2_with fail
    refine (awake_any w).mono ?_
    rintro r wa ⟨rfl, hBa⟩
    go_wp2_with fail
    refine (new_any wa).mono ?_
    rintro r w0 ⟨gc, gm, rfl, hL0, hb, hgm, hgc⟩
    have hL0 : LIs w0 gc gm 0 E0 := hL0
    have HGM := Lib.hid (show w.heap.size ≤ gm from Nat.le_trans hBa.size hgm)
    have hB0 := hBa.trans (hb.mono hBa.size)
    clear hgm hgc hb hBa
    go_wp2_with fail
    refine (drop_any (i := a0) E0 0 hL0 HI0.out (by simp [makeS, lockS, lockB, unlockS, unlockB, unlockR, dropS, dropR, one_find, one_at, one_set, one_del, E0_at, E0_find, E0_del, E0_one]) (by simp [makeS, lockS, lockB, unlockS, unlockB, unlockR, dropS, dropR, one_find, one_at, one_set, one_del, E0_at, E0_find, E0_del, E0_one])).mono ?_
    rintro r w1 ⟨rfl, hL1, hg⟩
    have hB1 : Below w.heap.size w w1 := hB0.grown hg hB0.size (fun k e => by cases e; exact HGM.out)
    clear hg hL0 hB0
    go_wp2_with fail
    refine (holder_any (i := a0) (-1) hL1 HI0.out (by simp [makeS, lockS, lockB, unlockS, unlockB, unlockR, dropS, dropR, one_find, one_at, one_set, one_del, E0_at, E0_find, E0_del, E0_one])).mono ?_
    rintro r w2 ⟨rfl, hb⟩
    have hL2 := hL1.below hb (Nat.le_refl _)
    have hB2 := hB1.trans (hb.mono hB1.size)
    clear hb hL1 hB1
    go_wp2_with fail
    refine (lock_any (i := a0) (t := a1) E0 false hL2 HI0.out HI1.out (by simp [makeS, lockS, lockB, unlockS, unlockB, unlockR, dropS, dropR, one_find, one_at, one_set, one_del, E0_at, E0_find, E0_del, E0_one]) (by simp [makeS, lockS, lockB, unlockS, unlockB, unlockR, dropS, dropR, one_find, one_at, one_set, one_del, E0_at, E0_find, E0_del, E0_one])).mono ?_
    rintro r w3 ⟨rfl, hL3, hg⟩
    have hB3 : Below w.heap.size w w3 := hB2.grown hg hB2.size (fun k e => by cases e; exact HGM.out)
    clear hg hL2 hB2
    go_wp2_with fail
    refine (make_any (i := a0) (one a0 (-1, false)) hL3 HI0.out (by simp [makeS, lockS, lockB, unlockS, unlockB, unlockR, dropS, dropR, one_find, one_at, one_set, one_del, E0_at, E0_find, E0_del, E0_one])).mono ?_
    rintro r w4 ⟨rfl, hL4, hg⟩
    have hB4 : Below w.heap.size w w4 := hB3.grown hg hB3.size (fun k e => by cases e; exact HGM.out)
    clear hg hL3 hB3
    go_wp2_with fail
    refine (lock_any (i := a0) (t := a1) (one a0 (-1, false)) false hL4 HI0.out HI1.out (by simp [makeS, lockS, lockB, unlockS, unlockB, unlockR, dropS, dropR, one_find, one_at, one_set, one_del, E0_at, E0_find, E0_del, E0_one, Int.not_le.2 HT.out]) (by simp [makeS, lockS, lockB, unlockS, unlockB, unlockR, dropS, dropR, one_find, one_at, one_set, one_del, E0_at, E0_find, E0_del, E0_one, Int.not_le.2 HT.out])).mono ?_
    rintro r w5 ⟨rfl, hL5, hg⟩
    have hB5 : Below w.heap.size w w5 := hB4.grown hg hB4.size (fun k e => by cases e; exact HGM.out)
    clear hg hL4 hB4
    go_wp2_with fail
    refine (make_any (i := a0) (one a0 (-1, false)) hL5 HI0.out (by simp [makeS, lockS, lockB, unlockS, unlockB, unlockR, dropS, dropR, one_find, one_at, one_set, one_del, E0_at, E0_find, E0_del, E0_one])).mono ?_
    rintro r w6 ⟨rfl, hL6, hg⟩
    have hB6 : Below w.heap.size w w6 := hB5.grown hg hB5.size (fun k e => by cases e; exact HGM.out)
    clear hg hL5 hB5
    go_wp2_with fail
    refine (drop_any (i := a0) E0 0 hL6 HI0.out (by simp [makeS, lockS, lockB, unlockS, unlockB, unlockR, dropS, dropR, one_find, one_at, one_set, one_del, E0_at, E0_find, E0_del, E0_one]) (by simp [makeS, lockS, lockB, unlockS, unlockB, unlockR, dropS, dropR, one_find, one_at, one_set, one_del, E0_at, E0_find, E0_del, E0_one])).mono ?_
    rintro r w7 ⟨rfl, hL7, hg⟩
    have hB7 : Below w.heap.size w w7 := hB6.grown hg hB6.size (fun k e => by cases e; exact HGM.out)
    clear hg hL6 hB6
    go_wp2_with fail
    refine (poisoned_any (i := a0) false hL7 HI0.out (by simp [makeS, lockS, lockB, unlockS, unlockB, unlockR, dropS, dropR, one_find, one_at, one_set, one_del, E0_at, E0_find, E0_del, E0_one])).mono ?_
    rintro r w8 ⟨rfl, hb⟩
    have hL8 := hL7.below hb (Nat.le_refl _)
    have hB8 := hB7.trans (hb.mono hB7.size)
    clear hb hL7 hB7
    go_wp2_with fail
    refine (lock_any (i := a0) (t := a1) E0 false hL8 HI0.out HI1.out (by simp [makeS, lockS, lockB, unlockS, unlockB, unlockR, dropS, dropR, one_find, one_at, one_set, one_del, E0_at, E0_find, E0_del, E0_one]) (by simp [makeS, lockS, lockB, unlockS, unlockB, unlockR, dropS, dropR, one_find, one_at, one_set, one_del, E0_at, E0_find, E0_del, E0_one])).mono ?_
    rintro r w9 ⟨rfl, hL9, hg⟩
    have hB9 : Below w.heap.size w w9 := hB8.grown hg hB8.size (fun k e => by cases e; exact HGM.out)
    clear hg hL8 hB8
    go_wp2_with fail
    refine (make_any (i := a0) (one a0 (-1, false)) hL9 HI0.out (by simp [makeS, lockS, lockB, unlockS, unlockB, unlockR, dropS, dropR, one_find, one_at, one_set, one_del, E0_at, E0_find, E0_del, E0_one])).mono ?_
    rintro r w10 ⟨rfl, hL10, hg⟩
    have hB10 : Below w.heap.size w w10 := hB9.grown hg hB9.size (fun k e => by cases e; exact HGM.out)
    clear hg hL9 hB9
    go_wp2_with fail
    refine (poisoned_any (i := a0) false hL10 HI0.out (by simp [makeS, lockS, lockB, unlockS, unlockB, unlockR, dropS, dropR, one_find, one_at, one_set, one_del, E0_at, E0_find, E0_del, E0_one])).mono ?_
    rintro r w11 ⟨rfl, hb⟩
    have hL11 := hL10.below hb (Nat.le_refl _)
    have hB11 := hB10.trans (hb.mono hB10.size)
    clear hb hL10 hB10
    go_wp2_with fail
    refine (holder_any (i := a0) (-1) hL11 HI0.out (by simp [makeS, lockS, lockB, unlockS, unlockB, unlockR, dropS, dropR, one_find, one_at, one_set, one_del, E0_at, E0_find, E0_del, E0_one])).mono ?_
    rintro r w12 ⟨rfl, hb⟩
    have hL12 := hL11.below hb (Nat.le_refl _)
    have hB12 := hB11.trans (hb.mono hB11.size)
    clear hb hL11 hB11
    go_wp2_with fail
    refine (lock_any (i := a0) (t := a1) (one a0 (-1, false)) false hL12 HI0.out HI1.out (by simp [makeS, lockS, lockB, unlockS, unlockB, unlockR, dropS, dropR, one_find, one_at, one_set, one_del, E0_at, E0_find, E0_del, E0_one, Int.not_le.2 HT.out]) (by simp [makeS, lockS, lockB, unlockS, unlockB, unlockR, dropS, dropR, one_find, one_at, one_set, one_del, E0_at, E0_find, E0_del, E0_one, Int.not_le.2 HT.out])).mono ?_
    rintro r w13 ⟨rfl, hL13, hg⟩
    have hB13 : Below w.heap.size w w13 := hB12.grown hg hB12.size (fun k e => by cases e; exact HGM.out)
    clear hg hL12 hB12
    go_wp2
    go_ret
    exact ⟨rfl, hB13⟩
end Go.Proofs.Ythbajgpoldajmaa
