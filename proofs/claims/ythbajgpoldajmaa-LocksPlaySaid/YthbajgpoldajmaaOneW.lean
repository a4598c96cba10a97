/- LocksOne: the walk. -/
import Derived.Test.YthbajgpoldajmaaE
namespace Go.Proofs.Ythbajgpoldajmaa
open Go.RowKit Go.ChangeMaps Go.MapKept
set_option linter.unusedVariables false
set_option linter.unusedSimpArgs false

theorem do_other {S : LS} {a : Acte} {id : Int} (h : a.id ≠ id) : doS S a id = S id := by
  have h' : id ≠ a.id := fun e => h e.symm
  unfold doS makeS lockS unlockS dropS
  repeat' split
  all_goals first | rfl | exact setS_other _ _ h'
theorem find_other {S : LS} {a : Acte} {id : Int} (h : a.id ≠ id) : findV (doS S a) id = findV S id := by unfold findV; rw [do_other h]
theorem find_set {S : LS} {i : Int} {x : Int × Bool} : findV (setS S i (some x)) i = x := by unfold findV; rw [setS_same]; rfl
theorem find_del {S : LS} {i : Int} : findV (setS S i none) i = (-1, false) := by unfold findV; rw [setS_same]; rfl
theorem find_make {S : LS} {i : Int} : findV (makeS S i) i = findV S i := by
  unfold makeS
  cases h : S i with
  | none => simp [find_set]; unfold findV; rw [h]; rfl
  | some x => simp
theorem lockB_lt {S : LS} {i t : Int} (h : lockB S i t = true) : (findV S i).1 < 0 ∧ 0 ≤ t := by
  unfold lockB at h; simp at h; exact ⟨h.1.2, h.2⟩
theorem unlockB_eq {S : LS} {i t : Int} (h : unlockB S i t = true) : (findV S i).1 = t ∧ 0 ≤ t := by
  unfold unlockB at h; simp at h; exact ⟨h.2, h.1.2⟩
theorem lock_yes {S : LS} {i t : Int} (h : lockB S i t = true) : findV (lockS S i t) i = (t, (findV S i).2) := by unfold lockS; rw [if_pos h, find_set]
theorem lock_no {S : LS} {i t : Int} (h : lockB S i t = false) : lockS S i t = S := by unfold lockS; rw [h]; rfl
theorem unlock_yes {S : LS} {i t : Int} {p : Bool} (h : unlockB S i t = true) : findV (unlockS S i t p) i = (-1, (findV S i).2 || p) := by unfold unlockS; rw [if_pos h, find_set]
theorem unlock_no {S : LS} {i t : Int} {p : Bool} (h : unlockB S i t = false) : unlockS S i t p = S := by unfold unlockS; rw [h]; rfl
theorem drop_find {S : LS} {i : Int} (hb : -1 ≤ (findV S i).1) : (findV (dropS S i) i).1 = (findV S i).1 := by
  unfold dropS
  split
  · rfl
  · rw [find_del]; simp; omega

set_option maxRecDepth 100000 in
set_option maxHeartbeats 12800000 in
theorem locksOneWalk (A0 : Option Addr) (c0 : Nat) (L0 : List Acte) (a1 : Int) (w : World) (rd0 : Rd w w.heap.size 4 actC A0 L0) (g0 : ∀ x ∈ L0, x.wf) (i1 : (Lit.int .i64 a1).wf = true) :
    Calls Try.prog 5 #[.slice A0 L0.length c0, .int .i64 a1] w fun e w' => e = .returned (.bool true) ∧ Below w.heap.size w w' := by
  have HI := Lib.hid i1
  have HG := Lib.hid g0
  obtain ⟨l0, hl0⟩ : ∃ l, l = L0.length := ⟨_, rfl⟩
  rw [← hl0]
  have H0 := Lib.hid hl0
  have R0 := Lib.hid rd0
  clear hl0 rd0 g0 i1
  by_cases hb1 : 200 < l0
  · have q1 : (200 : Int) < (l0 : Int) := by omega
    go_enter Try.func5, Try.ntmps5
    go_wp2_with fail
    refine (awake_any w).mono ?_
    rintro r wa ⟨rfl, hBa⟩
    go_wp2
    go_ret
    exact ⟨rfl, hBa⟩
  have q1 : decide ((200 : Int) < (l0 : Int)) = false := by simp; omega
  have hn1 : l0 ≤ 200 := by omega
  clear hb1
  go_enter Try.func5, Try.ntmps5
  go_wp2_with fail
  refine (awake_any w).mono ?_
  rintro r wa ⟨rfl, hBa⟩
  go_wp2_with fail
  refine (new_any wa).mono ?_
  rintro r w0 ⟨gc, gm, rfl, hL0, hb, hgm, hgc⟩
  have HGM := Lib.hid (show w.heap.size ≤ gm from Nat.le_trans hBa.size hgm)
  have hB0 := hBa.trans (hb.mono hBa.size)
  clear hgm hgc hb hBa q1
  go_wp2
  go_loopw [6, 7] (fun ho i wr => ∃ (k : Nat) (h : Int) (S : LS), k ≤ l0 ∧ i = .int .i64 k ∧ ho = .int .i64 h ∧ (findV S a1).1 = h ∧ LIs wr gc gm k S ∧ Below w.heap.size w wr) (fun _ i _ => l0 - (intOf i).toNat)
  case atStart => exact ⟨0, -1, _, by omega, rfl, rfl, rfl, hL0, hB0⟩
  case round =>
    obtain ⟨k, h, S, hk, rfl, rfl, hh, hL, hB⟩ := hrel
    clear hL0 hB0
    have HBD := Lib.hid (hL.bd a1)
    by_cases hlt : k < l0
    · obtain ⟨b, off, ⟨kd, i, t, p⟩, hx, rfl, hb, hc0, hc1, hc2, hc3⟩ := R0.out.acte (k := k) (by rw [← H0.out]; exact hlt)
      have hwf := HG.out _ (List.mem_of_getElem? hx)
      simp only at hc0 hc1 hc2 hc3
      have HW := Lib.hid hwf
      have hki : (k : Int) < (l0 : Int) := by omega
      have d0 := (hB.cell (p := ⟨b, off + k * 4, none⟩) hb).trans hc0
      have d1 := (hB.cell (p := ⟨b, off + k * 4 + 1, none⟩) hb).trans hc1
      have d2 := (hB.cell (p := ⟨b, off + k * 4 + 2, none⟩) hb).trans hc2
      have d3 := (hB.cell (p := ⟨b, off + k * 4 + 3, none⟩) hb).trans hc3
      have HH := Lib.hid hh
      have HC0 := Lib.hid hc0
      have HC1 := Lib.hid hc1
      have HC2 := Lib.hid hc2
      have HBB := Lib.hid hb
      obtain ⟨ok, hok⟩ : ∃ ok, doB S ⟨kd, i, t, p⟩ = ok := ⟨_, rfl⟩
      obtain ⟨S', hS'⟩ : ∃ S', doS S ⟨kd, i, t, p⟩ = S' := ⟨_, rfl⟩
      have HOK := Lib.hid hok
      have HS' := Lib.hid hS'
      clear hx hwf hc0 hc1 hc2 hc3 hb hh hok hS'
      go_wp2_with fail
      refine (do_any S' ok hL HW.out HOK.out HS'.out).mono ?_
      rintro r w1 ⟨rfl, hL1, hg⟩
      have hB1 : Below w.heap.size w w1 := hB.grown hg hB.size (fun k e => by cases e; exact HGM.out)
      have d0 := (hB1.cell (p := ⟨b, off + k * 4, none⟩) HBB.out).trans HC0.out
      have d1 := (hB1.cell (p := ⟨b, off + k * 4 + 1, none⟩) HBB.out).trans HC1.out
      have d2 := (hB1.cell (p := ⟨b, off + k * 4 + 2, none⟩) HBB.out).trans HC2.out
      clear hg hL hB d3 HC0 HC1 HC2 HBB
      by_cases hid : i = a1
      ·
        subst hid
        by_cases k1 : kd = 1
        ·
          subst k1
          have e1 : lockB S i t = ok := by rw [← HOK.out]; simp [doB]
          have e2 : lockS S i t = S' := by rw [← HS'.out]; simp [doS]
          cases ok
          ·
            have HE := Lib.hid (show (findV S' i).1 = h by rw [← e2, lock_no e1]; exact HH.out)
            clear e1 e2
            go_wp2_with fail
            refine (holder_any (i := i) h hL1 HI.out (HE.out)).mono ?_
            rintro r w2 ⟨rfl, hb⟩
            have hL2 := hL1.below hb (Nat.le_refl _)
            have hB2 := hB1.trans (hb.mono hB1.size)
            clear hb hL1 hB1 d0 d1 d2
            have zz : (h != h) = false := by simp
            go_wp2
            go_roundw
            case rel => exact ⟨k + 1, h, S', by omega, by go_num, rfl, HE.out, hL2, hB2⟩
            case measure => simp [intOf] <;> omega
          ·
            have hl := (lockB_lt e1).1
            have HE := Lib.hid (show (findV S' i).1 = t by rw [← e2, lock_yes e1])
            obtain rfl : h = -1 := by have := HBD.out.1; have := HH.out; omega
            clear e1 e2 hl
            go_wp2_with fail
            refine (holder_any (i := i) t hL1 HI.out (HE.out)).mono ?_
            rintro r w2 ⟨rfl, hb⟩
            have hL2 := hL1.below hb (Nat.le_refl _)
            have hB2 := hB1.trans (hb.mono hB1.size)
            clear hb hL1 hB1 d0 d1 d2
            have zz : (t != t) = false := by simp
            go_wp2
            go_roundw
            case rel => exact ⟨k + 1, t, S', by omega, by go_num, rfl, HE.out, hL2, hB2⟩
            case measure => simp [intOf] <;> omega
        by_cases k2 : kd = 2
        ·
          subst k2
          have e1 : lockB S i t = ok := by rw [← HOK.out]; simp [doB]
          have e2 : lockS S i t = S' := by rw [← HS'.out]; simp [doS]
          cases ok
          ·
            have HE := Lib.hid (show (findV S' i).1 = h by rw [← e2, lock_no e1]; exact HH.out)
            clear e1 e2
            go_wp2_with fail
            refine (holder_any (i := i) h hL1 HI.out (HE.out)).mono ?_
            rintro r w2 ⟨rfl, hb⟩
            have hL2 := hL1.below hb (Nat.le_refl _)
            have hB2 := hB1.trans (hb.mono hB1.size)
            clear hb hL1 hB1 d0 d1 d2
            have zz : (h != h) = false := by simp
            go_wp2
            go_roundw
            case rel => exact ⟨k + 1, h, S', by omega, by go_num, rfl, HE.out, hL2, hB2⟩
            case measure => simp [intOf] <;> omega
          ·
            have hl := (lockB_lt e1).1
            have HE := Lib.hid (show (findV S' i).1 = t by rw [← e2, lock_yes e1])
            obtain rfl : h = -1 := by have := HBD.out.1; have := HH.out; omega
            clear e1 e2 hl
            go_wp2_with fail
            refine (holder_any (i := i) t hL1 HI.out (HE.out)).mono ?_
            rintro r w2 ⟨rfl, hb⟩
            have hL2 := hL1.below hb (Nat.le_refl _)
            have hB2 := hB1.trans (hb.mono hB1.size)
            clear hb hL1 hB1 d0 d1 d2
            have zz : (t != t) = false := by simp
            go_wp2
            go_roundw
            case rel => exact ⟨k + 1, t, S', by omega, by go_num, rfl, HE.out, hL2, hB2⟩
            case measure => simp [intOf] <;> omega
        by_cases k3 : kd = 3
        ·
          subst k3
          have e1 : unlockB S i t = ok := by rw [← HOK.out]; simp [doB]
          have e2 : unlockS S i t p = S' := by rw [← HS'.out]; simp [doS]
          cases ok
          ·
            have HE := Lib.hid (show (findV S' i).1 = h by rw [← e2, unlock_no e1]; exact HH.out)
            clear e1 e2
            go_wp2_with fail
            refine (holder_any (i := i) h hL1 HI.out (HE.out)).mono ?_
            rintro r w2 ⟨rfl, hb⟩
            have hL2 := hL1.below hb (Nat.le_refl _)
            have hB2 := hB1.trans (hb.mono hB1.size)
            clear hb hL1 hB1 d0 d1 d2
            have zz : (h != h) = false := by simp
            go_wp2
            go_roundw
            case rel => exact ⟨k + 1, h, S', by omega, by go_num, rfl, HE.out, hL2, hB2⟩
            case measure => simp [intOf] <;> omega
          ·
            have hu := unlockB_eq e1
            have HE := Lib.hid (show (findV S' i).1 = -1 by rw [← e2, unlock_yes e1])
            obtain rfl : h = t := HH.out.symm.trans hu.1
            have z1 : (h == -1) = false := by have := hu.2; simp; omega
            have z2 : (h != h) = false := by simp
            clear e1 e2 hu
            go_wp2_with fail
            refine (holder_any (i := i) (-1) hL1 HI.out (HE.out)).mono ?_
            rintro r w2 ⟨rfl, hb⟩
            have hL2 := hL1.below hb (Nat.le_refl _)
            have hB2 := hB1.trans (hb.mono hB1.size)
            clear hb hL1 hB1 d0 d1 d2
            skip
            go_wp2
            go_roundw
            case rel => exact ⟨k + 1, (-1), S', by omega, by go_num, rfl, HE.out, hL2, hB2⟩
            case measure => simp [intOf] <;> omega
        by_cases k4 : kd = 4
        ·
          subst k4
          have e1 : unlockB S i t = ok := by rw [← HOK.out]; simp [doB]
          have e2 : unlockS S i t p = S' := by rw [← HS'.out]; simp [doS]
          cases ok
          ·
            have HE := Lib.hid (show (findV S' i).1 = h by rw [← e2, unlock_no e1]; exact HH.out)
            clear e1 e2
            go_wp2_with fail
            refine (holder_any (i := i) h hL1 HI.out (HE.out)).mono ?_
            rintro r w2 ⟨rfl, hb⟩
            have hL2 := hL1.below hb (Nat.le_refl _)
            have hB2 := hB1.trans (hb.mono hB1.size)
            clear hb hL1 hB1 d0 d1 d2
            have zz : (h != h) = false := by simp
            go_wp2
            go_roundw
            case rel => exact ⟨k + 1, h, S', by omega, by go_num, rfl, HE.out, hL2, hB2⟩
            case measure => simp [intOf] <;> omega
          ·
            have hu := unlockB_eq e1
            have HE := Lib.hid (show (findV S' i).1 = -1 by rw [← e2, unlock_yes e1])
            obtain rfl : h = t := HH.out.symm.trans hu.1
            have z1 : (h == -1) = false := by have := hu.2; simp; omega
            have z2 : (h != h) = false := by simp
            clear e1 e2 hu
            go_wp2_with fail
            refine (holder_any (i := i) (-1) hL1 HI.out (HE.out)).mono ?_
            rintro r w2 ⟨rfl, hb⟩
            have hL2 := hL1.below hb (Nat.le_refl _)
            have hB2 := hB1.trans (hb.mono hB1.size)
            clear hb hL1 hB1 d0 d1 d2
            skip
            go_wp2
            go_roundw
            case rel => exact ⟨k + 1, (-1), S', by omega, by go_num, rfl, HE.out, hL2, hB2⟩
            case measure => simp [intOf] <;> omega
        by_cases k5 : kd = 5
        ·
          subst k5
          have e1 : decide (dropR S i = 0) = ok := by rw [← HOK.out]; simp [doB]
          have e2 : dropS S i = S' := by rw [← HS'.out]; simp [doS]
          have HE := Lib.hid (show (findV S' i).1 = h by rw [← e2, drop_find HBD.out.1]; exact HH.out)
          by_cases hz : 0 ≤ h
          ·
            obtain rfl : ok = false := by rw [← e1]; unfold dropR; rw [HH.out, if_pos hz]; rfl
            have z1 : (h == -1) = false := by simp; omega
            clear e1 e2 hz
            go_wp2_with fail
            refine (holder_any (i := i) h hL1 HI.out (HE.out)).mono ?_
            rintro r w2 ⟨rfl, hb⟩
            have hL2 := hL1.below hb (Nat.le_refl _)
            have hB2 := hB1.trans (hb.mono hB1.size)
            clear hb hL1 hB1 d0 d1 d2
            have zz : (h != h) = false := by simp
            go_wp2
            go_roundw
            case rel => exact ⟨k + 1, h, S', by omega, by go_num, rfl, HE.out, hL2, hB2⟩
            case measure => simp [intOf] <;> omega
          ·
            obtain rfl : ok = true := by rw [← e1]; unfold dropR; rw [HH.out, if_neg hz]; rfl
            obtain rfl : h = -1 := by have := HBD.out.1; have := HH.out; omega
            clear e1 e2 hz
            go_wp2_with fail
            refine (holder_any (i := i) (-1) hL1 HI.out (HE.out)).mono ?_
            rintro r w2 ⟨rfl, hb⟩
            have hL2 := hL1.below hb (Nat.le_refl _)
            have hB2 := hB1.trans (hb.mono hB1.size)
            clear hb hL1 hB1 d0 d1 d2
            skip
            go_wp2
            go_roundw
            case rel => exact ⟨k + 1, (-1), S', by omega, by go_num, rfl, HE.out, hL2, hB2⟩
            case measure => simp [intOf] <;> omega
        have HE := Lib.hid (show (findV S' i).1 = h from by
          rw [← HS'.out]
          simp only [doS, k1, k2, k3, k4, k5, if_false, or_self]
          split
          · rw [find_make]; exact HH.out
          · exact HH.out)
        have b1 : (kd == 1) = false := by simpa using k1
        have b2 : (kd == 2) = false := by simpa using k2
        have b3 : (kd == 3) = false := by simpa using k3
        have b4 : (kd == 4) = false := by simpa using k4
        have b5 : (kd == 5) = false := by simpa using k5
        clear k1 k2 k3 k4 k5
        go_wp2_with fail
        refine (holder_any (i := i) h hL1 HI.out (HE.out)).mono ?_
        rintro r w2 ⟨rfl, hb⟩
        have hL2 := hL1.below hb (Nat.le_refl _)
        have hB2 := hB1.trans (hb.mono hB1.size)
        clear hb hL1 hB1 d0 d1 d2
        have zz : (h != h) = false := by simp
        go_wp2
        go_roundw
        case rel => exact ⟨k + 1, h, S', by omega, by go_num, rfl, HE.out, hL2, hB2⟩
        case measure => simp [intOf] <;> omega
      ·
        have bi : (i != a1) = true := by simpa using hid
        have HE := Lib.hid (show (findV S' a1).1 = h by rw [← HS'.out, find_other hid]; exact HH.out)
        clear hid
        go_wp2_with fail
        refine (holder_any (i := a1) h hL1 HI.out (HE.out)).mono ?_
        rintro r w2 ⟨rfl, hb⟩
        have hL2 := hL1.below hb (Nat.le_refl _)
        have hB2 := hB1.trans (hb.mono hB1.size)
        clear hb hL1 hB1 d0 d1 d2
        have zz : (h != h) = false := by simp
        go_wp2
        go_roundw
        case rel => exact ⟨k + 1, h, S', by omega, by go_num, rfl, HE.out, hL2, hB2⟩
        case measure => simp [intOf] <;> omega
    · obtain rfl : k = l0 := by omega
      go_wp2
      go_ret
      exact ⟨rfl, hB⟩
end Go.Proofs.Ythbajgpoldajmaa
