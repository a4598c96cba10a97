/- LocksTurns: the walk. -/
import Derived.Test.YthbajgpoldajmaaMakeW
import Derived.Test.YthbajgpoldajmaaE
namespace Go.Proofs.Ythbajgpoldajmaa
open Go.RowKit Go.ChangeMaps Go.MapKept
set_option linter.unusedVariables false
set_option linter.unusedSimpArgs false

def turnP (L2 : List Bool) (k : Nat) : Bool := L2.getD k false

set_option maxRecDepth 100000 in
set_option maxHeartbeats 6400000 in
theorem locksTurnsWalk (a0 : Int) (A1 : Option Addr) (c1 : Nat) (L1 : List Int) (A2 : Option Addr) (c2 : Nat) (L2 : List Bool) (w : World) (i0 : (Lit.int .i64 a0).wf = true) (rd1 : Rd w w.heap.size 1 intC A1 L1) (g1 : ∀ x ∈ L1, (Lit.int .i64 x).wf = true) (rd2 : Rd w w.heap.size 1 boolC A2 L2) :
    Calls Try.prog 7 #[.int .i64 a0, .slice A1 L1.length c1, .slice A2 L2.length c2] w fun e w' => e = .returned (.bool true) ∧ Below w.heap.size w w' := by
  have HI0 := Lib.hid i0
  have HG := Lib.hid g1
  clear i0 g1
  obtain ⟨l1, hl1⟩ : ∃ l, l = L1.length := ⟨_, rfl⟩
  obtain ⟨l2, hl2⟩ : ∃ l, l = L2.length := ⟨_, rfl⟩
  rw [← hl1, ← hl2]
  have H1 := Lib.hid hl1
  have H2 := Lib.hid hl2
  have R1 := Lib.hid rd1
  have R2 := Lib.hid rd2
  clear hl1 hl2 rd1 rd2
  by_cases hb1 : 200 < l1
  · have q1 : (200 : Int) < (l1 : Int) := by omega
    go_enter Try.func7, Try.ntmps7
    go_wp2_with fail
    refine (awake_any w).mono ?_
    rintro r wa ⟨rfl, hBa⟩
    go_wp2
    go_ret
    exact ⟨rfl, hBa⟩
  by_cases hb2 : 200 < l2
  · have q1 : decide ((200 : Int) < (l1 : Int)) = false := by simp; omega
    have q2 : (200 : Int) < (l2 : Int) := by omega
    go_enter Try.func7, Try.ntmps7
    go_wp2_with fail
    refine (awake_any w).mono ?_
    rintro r wa ⟨rfl, hBa⟩
    go_wp2
    go_ret
    exact ⟨rfl, hBa⟩
  have q1 : decide ((200 : Int) < (l1 : Int)) = false := by simp; omega
  have q2 : decide ((200 : Int) < (l2 : Int)) = false := by simp; omega
  have hn1 : l1 ≤ 200 := by omega
  have hn2 : l2 ≤ 200 := by omega
  clear hb1 hb2
  go_enter Try.func7, Try.ntmps7
  go_wp2_with fail
  refine (awake_any w).mono ?_
  rintro r wa ⟨rfl, hBa⟩
  go_wp2_with fail
  refine (new_any wa).mono ?_
  rintro r w0 ⟨gc, gm, rfl, hL0, hb, hgm, hgc⟩
  have hL0 : LIs w0 gc gm 0 E0 := hL0
  have HGM := Lib.hid (show w.heap.size ≤ gm from Nat.le_trans hBa.size hgm)
  have hB0 := hBa.trans (hb.mono hBa.size)
  clear hgm hgc hb hBa
  go_wp2_with fail
  refine (make_any (i := a0) (one a0 (-1, false)) hL0 HI0.out (by simp [makeS, E0_at, E0_one])).mono ?_
  rintro r w1 ⟨rfl, hL1, hg⟩
  have hB1 : Below w.heap.size w w1 := hB0.grown hg hB0.size (fun k e => by cases e; exact HGM.out)
  clear hg hL0 hB0 q1 q2
  go_wp2
  go_loopw [8, 9] (fun po i wr => ∃ (k : Nat) (bp : Bool) (N : Nat), k ≤ l1 ∧ i = .int .i64 k ∧ po = .bool bp ∧ LIs wr gc gm N (one a0 (-1, bp)) ∧ Below w.heap.size w wr) (fun _ i _ => l1 - (intOf i).toNat)
  case atStart => exact ⟨0, false, _, by omega, rfl, rfl, hL1, hB1⟩
  case round =>
    obtain ⟨k, bp, N, hk, rfl, rfl, hL, hB⟩ := hrel
    clear hL1 hB1
    by_cases hlt : k < l1
    · obtain ⟨b, off, t, hx, rfl, hb, hc⟩ := (R1.out.below hB).int (k := k) (by rw [← H1.out]; exact hlt)
      have ht := HG.out t (List.mem_of_getElem? hx)
      have HT := Lib.hid ht
      clear hx ht hb
      have hki : (k : Int) < (l1 : Int) := by omega
      by_cases hk2 : k < l2
      ·
        obtain ⟨b2, off2, bad, hx2, rfl, hbb2, hc2⟩ := (R2.out.below hB).bool (k := k) (by rw [← H2.out]; exact hk2)
        have hk2i : (k : Int) < (l2 : Int) := by omega
        clear hx2 hbb2
        by_cases ht : 0 ≤ t
        ·
          have htd : decide (0 ≤ t) = true := by simpa using ht
          have htd2 : decide (t < 0) = false := by simp; omega
          have HTT := Lib.hid ht
          clear ht
          go_wp2_with fail
          refine (lock_any (i := a0) (t := t) (one a0 (t, bp)) true hL HI0.out HT.out (by simp [makeS, lockS, lockB, unlockS, unlockB, unlockR, dropS, dropR, one_find, one_at, one_set, one_del, E0_at, E0_find, E0_del, E0_one, HTT.out]) (by simp [makeS, lockS, lockB, unlockS, unlockB, unlockR, dropS, dropR, one_find, one_at, one_set, one_del, E0_at, E0_find, E0_del, E0_one, HTT.out])).mono ?_
          rintro r wx1 ⟨rfl, hLwx1, hg⟩
          have hBwx1 : Below w.heap.size w wx1 := hB.grown hg hB.size (fun k e => by cases e; exact HGM.out)
          clear hg hL hB
          go_wp2_with fail
          refine (holder_any (i := a0) t hLwx1 HI0.out (by simp [makeS, lockS, lockB, unlockS, unlockB, unlockR, dropS, dropR, one_find, one_at, one_set, one_del, E0_at, E0_find, E0_del, E0_one])).mono ?_
          rintro r wx2 ⟨rfl, hb⟩
          have hLwx2 := hLwx1.below hb (Nat.le_refl _)
          have hBwx2 := hBwx1.trans (hb.mono hBwx1.size)
          clear hb hLwx1 hBwx1
          go_wp2_with fail
          refine (lock_any (i := a0) (t := t) (one a0 (t, bp)) false hLwx2 HI0.out HT.out (by simp [makeS, lockS, lockB, unlockS, unlockB, unlockR, dropS, dropR, one_find, one_at, one_set, one_del, E0_at, E0_find, E0_del, E0_one, HTT.out]) (by simp [makeS, lockS, lockB, unlockS, unlockB, unlockR, dropS, dropR, one_find, one_at, one_set, one_del, E0_at, E0_find, E0_del, E0_one, HTT.out])).mono ?_
          rintro r wx3 ⟨rfl, hLwx3, hg⟩
          have hBwx3 : Below w.heap.size w wx3 := hBwx2.grown hg hBwx2.size (fun k e => by cases e; exact HGM.out)
          clear hg hLwx2 hBwx2
          go_wp2_with fail
          refine (poisoned_any (i := a0) bp hLwx3 HI0.out (by simp [makeS, lockS, lockB, unlockS, unlockB, unlockR, dropS, dropR, one_find, one_at, one_set, one_del, E0_at, E0_find, E0_del, E0_one])).mono ?_
          rintro r wx4 ⟨rfl, hb⟩
          have hLwx4 := hLwx3.below hb (Nat.le_refl _)
          have hBwx4 := hBwx3.trans (hb.mono hBwx3.size)
          clear hb hLwx3 hBwx3
          have zz : (bp != bp) = false := by simp
          go_wp2_with fail
          refine (unlock_any (i := a0) (t := t) (po := bad) (one a0 (-1, bp || bad)) 0 hLwx4 HI0.out (by simp [makeS, lockS, lockB, unlockS, unlockB, unlockR, dropS, dropR, one_find, one_at, one_set, one_del, E0_at, E0_find, E0_del, E0_one, HTT.out]) (by simp [makeS, lockS, lockB, unlockS, unlockB, unlockR, dropS, dropR, one_find, one_at, one_set, one_del, E0_at, E0_find, E0_del, E0_one, HTT.out])).mono ?_
          rintro r wx5 ⟨rfl, hLwx5, hg⟩
          have hBwx5 : Below w.heap.size w wx5 := hBwx4.grown hg hBwx4.size (fun k e => by cases e; exact HGM.out)
          clear hg hLwx4 hBwx4
          go_wp2_with fail
          refine (unlock_any (i := a0) (t := t) (po := true) (one a0 (-1, bp || bad)) 5 hLwx5 HI0.out (by simp [makeS, lockS, lockB, unlockS, unlockB, unlockR, dropS, dropR, one_find, one_at, one_set, one_del, E0_at, E0_find, E0_del, E0_one, HTT.out, show ¬ (-1 = t) from by have := HTT.out; omega]) (by simp [makeS, lockS, lockB, unlockS, unlockB, unlockR, dropS, dropR, one_find, one_at, one_set, one_del, E0_at, E0_find, E0_del, E0_one, HTT.out, show ¬ (-1 = t) from by have := HTT.out; omega])).mono ?_
          rintro r wx6 ⟨rfl, hLwx6, hg⟩
          have hBwx6 : Below w.heap.size w wx6 := hBwx5.grown hg hBwx5.size (fun k e => by cases e; exact HGM.out)
          clear hg hLwx5 hBwx5
          clear zz hc hki hk2i hc2
          cases bp
          all_goals
            go_wp2
            go_roundw
            case rel => exact ⟨k + 1, _, _, by omega, by go_num, rfl, by simpa using hLwx6, hBwx6⟩
            case measure => simp [intOf] <;> omega
        ·
          have htd : decide (0 ≤ t) = false := by simpa using ht
          have htd2 : decide (t < 0) = true := by simp; omega
          have HTT := Lib.hid (Int.not_le.1 ht)
          clear ht
          go_wp2_with fail
          refine (lock_any (i := a0) (t := t) (one a0 (-1, bp)) false hL HI0.out HT.out (by simp [makeS, lockS, lockB, unlockS, unlockB, unlockR, dropS, dropR, one_find, one_at, one_set, one_del, E0_at, E0_find, E0_del, E0_one, Int.not_le.2 HTT.out]) (by simp [makeS, lockS, lockB, unlockS, unlockB, unlockR, dropS, dropR, one_find, one_at, one_set, one_del, E0_at, E0_find, E0_del, E0_one, Int.not_le.2 HTT.out])).mono ?_
          rintro r wx1 ⟨rfl, hLwx1, hg⟩
          have hBwx1 : Below w.heap.size w wx1 := hB.grown hg hB.size (fun k e => by cases e; exact HGM.out)
          clear hg hL hB
          go_wp2
          go_roundw
          case rel => exact ⟨k + 1, bp, _, by omega, by go_num, rfl, hLwx1, hBwx1⟩
          case measure => simp [intOf] <;> omega
      ·
        have hk2i : decide ((k : Int) < (l2 : Int)) = false := by simp; omega
        by_cases ht : 0 ≤ t
        ·
          have htd : decide (0 ≤ t) = true := by simpa using ht
          have htd2 : decide (t < 0) = false := by simp; omega
          have HTT := Lib.hid ht
          clear ht
          go_wp2_with fail
          refine (lock_any (i := a0) (t := t) (one a0 (t, bp)) true hL HI0.out HT.out (by simp [makeS, lockS, lockB, unlockS, unlockB, unlockR, dropS, dropR, one_find, one_at, one_set, one_del, E0_at, E0_find, E0_del, E0_one, HTT.out]) (by simp [makeS, lockS, lockB, unlockS, unlockB, unlockR, dropS, dropR, one_find, one_at, one_set, one_del, E0_at, E0_find, E0_del, E0_one, HTT.out])).mono ?_
          rintro r wx1 ⟨rfl, hLwx1, hg⟩
          have hBwx1 : Below w.heap.size w wx1 := hB.grown hg hB.size (fun k e => by cases e; exact HGM.out)
          clear hg hL hB
          go_wp2_with fail
          refine (holder_any (i := a0) t hLwx1 HI0.out (by simp [makeS, lockS, lockB, unlockS, unlockB, unlockR, dropS, dropR, one_find, one_at, one_set, one_del, E0_at, E0_find, E0_del, E0_one])).mono ?_
          rintro r wx2 ⟨rfl, hb⟩
          have hLwx2 := hLwx1.below hb (Nat.le_refl _)
          have hBwx2 := hBwx1.trans (hb.mono hBwx1.size)
          clear hb hLwx1 hBwx1
          go_wp2_with fail
          refine (lock_any (i := a0) (t := t) (one a0 (t, bp)) false hLwx2 HI0.out HT.out (by simp [makeS, lockS, lockB, unlockS, unlockB, unlockR, dropS, dropR, one_find, one_at, one_set, one_del, E0_at, E0_find, E0_del, E0_one, HTT.out]) (by simp [makeS, lockS, lockB, unlockS, unlockB, unlockR, dropS, dropR, one_find, one_at, one_set, one_del, E0_at, E0_find, E0_del, E0_one, HTT.out])).mono ?_
          rintro r wx3 ⟨rfl, hLwx3, hg⟩
          have hBwx3 : Below w.heap.size w wx3 := hBwx2.grown hg hBwx2.size (fun k e => by cases e; exact HGM.out)
          clear hg hLwx2 hBwx2
          go_wp2_with fail
          refine (poisoned_any (i := a0) bp hLwx3 HI0.out (by simp [makeS, lockS, lockB, unlockS, unlockB, unlockR, dropS, dropR, one_find, one_at, one_set, one_del, E0_at, E0_find, E0_del, E0_one])).mono ?_
          rintro r wx4 ⟨rfl, hb⟩
          have hLwx4 := hLwx3.below hb (Nat.le_refl _)
          have hBwx4 := hBwx3.trans (hb.mono hBwx3.size)
          clear hb hLwx3 hBwx3
          have zz : (bp != bp) = false := by simp
          go_wp2_with fail
          refine (unlock_any (i := a0) (t := t) (po := false) (one a0 (-1, bp || false)) 0 hLwx4 HI0.out (by simp [makeS, lockS, lockB, unlockS, unlockB, unlockR, dropS, dropR, one_find, one_at, one_set, one_del, E0_at, E0_find, E0_del, E0_one, HTT.out]) (by simp [makeS, lockS, lockB, unlockS, unlockB, unlockR, dropS, dropR, one_find, one_at, one_set, one_del, E0_at, E0_find, E0_del, E0_one, HTT.out])).mono ?_
          rintro r wx5 ⟨rfl, hLwx5, hg⟩
          have hBwx5 : Below w.heap.size w wx5 := hBwx4.grown hg hBwx4.size (fun k e => by cases e; exact HGM.out)
          clear hg hLwx4 hBwx4
          go_wp2_with fail
          refine (unlock_any (i := a0) (t := t) (po := true) (one a0 (-1, bp || false)) 5 hLwx5 HI0.out (by simp [makeS, lockS, lockB, unlockS, unlockB, unlockR, dropS, dropR, one_find, one_at, one_set, one_del, E0_at, E0_find, E0_del, E0_one, HTT.out, show ¬ (-1 = t) from by have := HTT.out; omega]) (by simp [makeS, lockS, lockB, unlockS, unlockB, unlockR, dropS, dropR, one_find, one_at, one_set, one_del, E0_at, E0_find, E0_del, E0_one, HTT.out, show ¬ (-1 = t) from by have := HTT.out; omega])).mono ?_
          rintro r wx6 ⟨rfl, hLwx6, hg⟩
          have hBwx6 : Below w.heap.size w wx6 := hBwx5.grown hg hBwx5.size (fun k e => by cases e; exact HGM.out)
          clear hg hLwx5 hBwx5
          clear zz hc hki hk2i
          cases bp
          all_goals
            go_wp2
            go_roundw
            case rel => exact ⟨k + 1, _, _, by omega, by go_num, rfl, by simpa using hLwx6, hBwx6⟩
            case measure => simp [intOf] <;> omega
        ·
          have htd : decide (0 ≤ t) = false := by simpa using ht
          have htd2 : decide (t < 0) = true := by simp; omega
          have HTT := Lib.hid (Int.not_le.1 ht)
          clear ht
          go_wp2_with fail
          refine (lock_any (i := a0) (t := t) (one a0 (-1, bp)) false hL HI0.out HT.out (by simp [makeS, lockS, lockB, unlockS, unlockB, unlockR, dropS, dropR, one_find, one_at, one_set, one_del, E0_at, E0_find, E0_del, E0_one, Int.not_le.2 HTT.out]) (by simp [makeS, lockS, lockB, unlockS, unlockB, unlockR, dropS, dropR, one_find, one_at, one_set, one_del, E0_at, E0_find, E0_del, E0_one, Int.not_le.2 HTT.out])).mono ?_
          rintro r wx1 ⟨rfl, hLwx1, hg⟩
          have hBwx1 : Below w.heap.size w wx1 := hB.grown hg hB.size (fun k e => by cases e; exact HGM.out)
          clear hg hL hB
          go_wp2
          go_roundw
          case rel => exact ⟨k + 1, bp, _, by omega, by go_num, rfl, hLwx1, hBwx1⟩
          case measure => simp [intOf] <;> omega
    · obtain rfl : k = l1 := by omega
      go_wp2_with fail
      refine (make_any (i := a0) (one a0 (-1, bp)) hL HI0.out (by simp [makeS, one_at])).mono ?_
      rintro r w2 ⟨rfl, hL2, hg⟩
      have hB2 : Below w.heap.size w w2 := hB.grown hg hB.size (fun k e => by cases e; exact HGM.out)
      clear hg hL hB
      go_wp2_with fail
      refine (holder_any (i := a0) (-1) hL2 HI0.out (by simp [one_find])).mono ?_
      rintro r w3 ⟨rfl, hb⟩
      have hL3 := hL2.below hb (Nat.le_refl _)
      have hB3 := hB2.trans (hb.mono hB2.size)
      clear hb hL2 hB2
      go_wp2_with fail
      refine (poisoned_any (i := a0) bp hL3 HI0.out (by simp [one_find])).mono ?_
      rintro r w4 ⟨rfl, hb⟩
      have hB4 := hB3.trans (hb.mono hB3.size)
      clear hb hL3 hB3
      have z : (bp == bp) = true := by simp
      go_wp2
      go_ret
      exact ⟨rfl, hB4⟩
end Go.Proofs.Ythbajgpoldajmaa
