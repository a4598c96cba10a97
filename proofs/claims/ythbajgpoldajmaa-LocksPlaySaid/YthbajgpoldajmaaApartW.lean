/- LocksApart: the walk. -/
import Derived.Test.YthbajgpoldajmaaOneW
namespace Go.Proofs.Ythbajgpoldajmaa
open Go.RowKit Go.ChangeMaps Go.MapKept
set_option linter.unusedVariables false
set_option linter.unusedSimpArgs false

theorem LIs.grown {w w' : World} {gc gm N g : Nat} {S : LS} (h : LIs w gc gm N S) (hg : w.grownBy w' (some g)) (h1 : gc ≠ g) (h2 : gm ≠ g) : LIs w' gc gm N S :=
  h.kept (hg.block gc h.lt.1 (by simpa using h1)) (hg.block gm h.lt.2 (by simpa using h2))
theorem do_localB {S S' : LS} {a : Acte} (h : S a.id = S' a.id) : doB S a = doB S' a := by
  have hf : findV S a.id = findV S' a.id := by unfold findV; rw [h]
  unfold doB lockB unlockB dropR
  rw [hf, h]
theorem do_localS {S S' : LS} {a : Acte} (h : S a.id = S' a.id) : doS S a a.id = doS S' a a.id := by
  have hf : findV S a.id = findV S' a.id := by unfold findV; rw [h]
  unfold doS makeS lockS lockB unlockS unlockB dropS
  rw [hf, h]
  repeat' split
  all_goals first | exact h | (rw [setS_same, setS_same])
theorem do_poison {S : LS} {a : Acte} (hp : (findV S a.id).2 = true) (h : ¬ (a.kind = 5 ∧ doB S a = true)) : (findV (doS S a) a.id).2 = true := by
  unfold doS
  split
  · rw [find_make]; exact hp
  split
  · unfold lockS
    split
    · rw [find_set]; exact hp
    · exact hp
  split
  · unfold unlockS
    split
    · rw [find_set]; simp [hp]
    · exact hp
  split
  · rename_i h0 h1 h2 h5
    unfold dropS
    split
    · exact hp
    · rename_i hx
      exact absurd ⟨h5, by simp [doB, h5, dropR, hx]⟩ h
  · exact hp
theorem do_drop_no {S : LS} {a : Acte} (h5 : a.kind = 5) (h : doB S a = false) : doS S a = S := by
  have : dropR S a.id ≠ 0 := by simpa [doB, h5] using h
  have h0 : 0 ≤ (findV S a.id).1 := by
    unfold dropR at this
    split at this
    · assumption
    · exact absurd rfl this
  simp [doS, h5, dropS, h0]

set_option maxRecDepth 100000 in
set_option maxHeartbeats 12800000 in
theorem locksApartWalk (A0 : Option Addr) (c0 : Nat) (L0 : List Acte) (a1 : Int) (w : World) (rd0 : Rd w w.heap.size 4 actC A0 L0) (g0 : ∀ x ∈ L0, x.wf) (i1 : (Lit.int .i64 a1).wf = true) :
    Calls Try.prog 6 #[.slice A0 L0.length c0, .int .i64 a1] w fun e w' => e = .returned (.bool true) ∧ Below w.heap.size w w' := by
  have HI := Lib.hid i1
  have HG := Lib.hid g0
  obtain ⟨l0, hl0⟩ : ∃ l, l = L0.length := ⟨_, rfl⟩
  rw [← hl0]
  have H0 := Lib.hid hl0
  have R0 := Lib.hid rd0
  clear hl0 rd0 g0 i1
  by_cases hb1 : 200 < l0
  · have q1 : (200 : Int) < (l0 : Int) := by omega
    go_enter Try.func6, Try.ntmps6
    go_wp2_with fail
    refine (awake_any w).mono ?_
    rintro r wa ⟨rfl, hBa⟩
    go_wp2
    go_ret
    exact ⟨rfl, hBa⟩
  have q1 : decide ((200 : Int) < (l0 : Int)) = false := by simp; omega
  have hn1 : l0 ≤ 200 := by omega
  clear hb1
  go_enter Try.func6, Try.ntmps6
  go_wp2_with fail
  refine (awake_any w).mono ?_
  rintro r wa ⟨rfl, hBa⟩
  go_wp2_with fail
  refine (new_any wa).mono ?_
  rintro r wb ⟨gc, gm, rfl, hLA, hb, hgm, hgc⟩
  have HGM := Lib.hid (show w.heap.size ≤ gm from Nat.le_trans hBa.size hgm)
  have hBb := hBa.trans (hb.mono hBa.size)
  have hlt1 := hLA.lt
  clear hgm hgc hb hBa q1
  go_wp2_with fail
  refine (new_any wb).mono ?_
  rintro r w0 ⟨gc2, gm2, rfl, hLB, hb, hgm, hgc⟩
  have HGM2 := Lib.hid (show w.heap.size ≤ gm2 from Nat.le_trans hBb.size hgm)
  have HD := Lib.hid (show gc ≠ gm2 ∧ gm ≠ gm2 ∧ gc2 ≠ gm ∧ gm2 ≠ gm from by omega)
  have hLA0 := hLA.below hb (Nat.le_refl _)
  have hB0 := hBb.trans (hb.mono hBb.size)
  clear hgm hgc hb hBb hLA hlt1
  go_wp2
  go_loopw [7, 8] (fun po i wr => ∃ (k : Nat) (pv : Bool) (S S2 : LS), k ≤ l0 ∧ i = .int .i64 k ∧ po = .bool pv ∧ (findV S a1).2 = pv ∧ S2 a1 = S a1 ∧ LIs wr gc gm k S ∧ LIs wr gc2 gm2 k S2 ∧ Below w.heap.size w wr) (fun _ i _ => l0 - (intOf i).toNat)
  case atStart => exact ⟨0, false, _, _, by omega, rfl, rfl, rfl, rfl, hLA0, hLB, hB0⟩
  case round =>
    obtain ⟨k, pv, S, S2, hk, rfl, rfl, hpv, hSS, hL, hL2, hB⟩ := hrel
    clear hLA0 hLB hB0
    by_cases hlt : k < l0
    · obtain ⟨b, off, ⟨kd, i, t, p⟩, hx, rfl, hb, hc0, hc1, hc2, hc3⟩ := R0.out.acte (k := k) (by rw [← H0.out]; exact hlt)
      have hwf := HG.out _ (List.mem_of_getElem? hx)
      simp only at hc0 hc1 hc2 hc3
      have HW := Lib.hid hwf
      have hki : (k : Int) < (l0 : Int) := by omega
      have d0 := (hB.cell (p := ⟨b, off + k * 4, none⟩) hb).trans hc0
      have d1 := (hB.cell (p := ⟨b, off + k * 4 + 1, none⟩) hb).trans hc1
      have d2 := (hB.cell (p := ⟨b, off + k * 4 + 2, none⟩) hb).trans hc2
      have d3 := (hB.cell (p := ⟨b, off + k * 4 + 3, none⟩) hb).trans hc3
      have HP := Lib.hid hpv
      have HSS := Lib.hid hSS
      have HC0 := Lib.hid hc0
      have HC1 := Lib.hid hc1
      have HC2 := Lib.hid hc2
      have HC3 := Lib.hid hc3
      have HBB := Lib.hid hb
      obtain ⟨ok, hok⟩ : ∃ ok, doB S ⟨kd, i, t, p⟩ = ok := ⟨_, rfl⟩
      obtain ⟨S', hS'⟩ : ∃ S', doS S ⟨kd, i, t, p⟩ = S' := ⟨_, rfl⟩
      have HOK := Lib.hid hok
      have HS' := Lib.hid hS'
      clear hx hwf hc0 hc1 hc2 hc3 hb hpv hSS hok hS'
      go_wp2_with fail
      refine (do_any S' ok hL HW.out HOK.out HS'.out).mono ?_
      rintro r w1 ⟨rfl, hL1, hg⟩
      have hB1 : Below w.heap.size w w1 := hB.grown hg hB.size (fun k e => by cases e; exact HGM.out)
      have hM1 := hL2.grown hg HD.out.2.2.1 HD.out.2.2.2
      have d0 := (hB1.cell (p := ⟨b, off + k * 4, none⟩) HBB.out).trans HC0.out
      have d1 := (hB1.cell (p := ⟨b, off + k * 4 + 1, none⟩) HBB.out).trans HC1.out
      have d2 := (hB1.cell (p := ⟨b, off + k * 4 + 2, none⟩) HBB.out).trans HC2.out
      have d3 := (hB1.cell (p := ⟨b, off + k * 4 + 3, none⟩) HBB.out).trans HC3.out
      clear hg hL hB hL2
      by_cases hid : i = a1
      ·
        subst hid
        obtain ⟨S2', hS2'⟩ : ∃ S2', doS S2 ⟨kd, i, t, p⟩ = S2' := ⟨_, rfl⟩
        have HS2' := Lib.hid hS2'
        have HOK2 := Lib.hid (show doB S2 ⟨kd, i, t, p⟩ = ok from (do_localB (a := ⟨kd, i, t, p⟩) HSS.out).trans HOK.out)
        have HZ := Lib.hid (show S2' i = S' i by rw [← HS2'.out, ← HS'.out]; exact do_localS (a := ⟨kd, i, t, p⟩) HSS.out)
        clear hS2'
        go_wp2_with fail
        refine (do_any S2' ok hM1 HW.out HOK2.out HS2'.out).mono ?_
        rintro r w2 ⟨rfl, hM2, hg⟩
        have hB2 : Below w.heap.size w w2 := hB1.grown hg hB1.size (fun k e => by cases e; exact HGM2.out)
        have hL2 := hL1.grown hg HD.out.1 HD.out.2.1
        have d0 := (hB2.cell (p := ⟨b, off + k * 4, none⟩) HBB.out).trans HC0.out
        have d1 := (hB2.cell (p := ⟨b, off + k * 4 + 1, none⟩) HBB.out).trans HC1.out
        have d2 := (hB2.cell (p := ⟨b, off + k * 4 + 2, none⟩) HBB.out).trans HC2.out
        have d3 := (hB2.cell (p := ⟨b, off + k * 4 + 3, none⟩) HBB.out).trans HC3.out
        clear hg hL1 hB1 hM1
        have zok : (ok != ok) = false := by simp
        obtain ⟨h', hh'⟩ : ∃ h', h' = (findV S' i).1 := ⟨_, rfl⟩
        obtain ⟨p', hp'⟩ : ∃ p', p' = (findV S' i).2 := ⟨_, rfl⟩
        have HX := Lib.hid (show findV S' i = (h', p') by rw [hh', hp'])
        have HY := Lib.hid (show findV S2' i = (h', p') by rw [← HX.out]; unfold findV; rw [HZ.out])
        clear hh' hp' 
        by_cases k5 : kd = 5
        ·
          subst k5
          cases ok
          ·
            have hno : S' = S := by rw [← HS'.out]; exact do_drop_no rfl HOK.out
            obtain rfl : p' = pv := by have := HX.out; rw [hno] at this; rw [← HP.out, this]
            clear hno
            cases p'
            ·
              have z1 : (h' != h') = false := by simp
              have z2 : (false != false) = false := by simp
              go_wp2_with fail
              refine (holder_any (i := i) h' hL2 HI.out (by rw [HX.out])).mono ?_
              rintro r wy3 ⟨rfl, hb⟩
              have Lwy3 := hL2.below hb (Nat.le_refl _)
              have Mwy3 := hM2.below hb (Nat.le_refl _)
              have Bwy3 := hB2.trans (hb.mono hB2.size)
              clear hb hL2 hM2 hB2
              go_wp2_with fail
              refine (holder_any (i := i) h' Mwy3 HI.out (by rw [HY.out])).mono ?_
              rintro r wy4 ⟨rfl, hb⟩
              have Lwy4 := Lwy3.below hb (Nat.le_refl _)
              have Mwy4 := Mwy3.below hb (Nat.le_refl _)
              have Bwy4 := Bwy3.trans (hb.mono Bwy3.size)
              clear hb Lwy3 Mwy3 Bwy3
              go_wp2_with fail
              refine (poisoned_any (i := i) false Lwy4 HI.out (by rw [HX.out])).mono ?_
              rintro r wy5 ⟨rfl, hb⟩
              have Lwy5 := Lwy4.below hb (Nat.le_refl _)
              have Mwy5 := Mwy4.below hb (Nat.le_refl _)
              have Bwy5 := Bwy4.trans (hb.mono Bwy4.size)
              clear hb Lwy4 Mwy4 Bwy4
              go_wp2_with fail
              refine (poisoned_any (i := i) false Mwy5 HI.out (by rw [HY.out])).mono ?_
              rintro r wy6 ⟨rfl, hb⟩
              have Lwy6 := Lwy5.below hb (Nat.le_refl _)
              have Mwy6 := Mwy5.below hb (Nat.le_refl _)
              have Bwy6 := Bwy5.trans (hb.mono Bwy5.size)
              clear hb Lwy5 Mwy5 Bwy5
              go_wp2_with fail
              refine (poisoned_any (i := i) false Lwy6 HI.out (by rw [HX.out])).mono ?_
              rintro r wy7 ⟨rfl, hb⟩
              have Lwy7 := Lwy6.below hb (Nat.le_refl _)
              have Mwy7 := Mwy6.below hb (Nat.le_refl _)
              have Bwy7 := Bwy6.trans (hb.mono Bwy6.size)
              clear hb Lwy6 Mwy6 Bwy6
              go_wp2
              go_roundw
              case rel => exact ⟨k + 1, false, S', S2', by omega, by go_num, rfl, by rw [HX.out], HZ.out, Lwy7, Mwy7.mono (by omega), Bwy7⟩
              case measure => simp [intOf] <;> omega
            ·
              have z1 : (h' != h') = false := by simp
              go_wp2_with fail
              refine (poisoned_any (i := i) true hL2 HI.out (by rw [HX.out])).mono ?_
              rintro r wy3 ⟨rfl, hb⟩
              have Lwy3 := hL2.below hb (Nat.le_refl _)
              have Mwy3 := hM2.below hb (Nat.le_refl _)
              have Bwy3 := hB2.trans (hb.mono hB2.size)
              clear hb hL2 hM2 hB2
              go_wp2_with fail
              refine (holder_any (i := i) h' Lwy3 HI.out (by rw [HX.out])).mono ?_
              rintro r wy4 ⟨rfl, hb⟩
              have Lwy4 := Lwy3.below hb (Nat.le_refl _)
              have Mwy4 := Mwy3.below hb (Nat.le_refl _)
              have Bwy4 := Bwy3.trans (hb.mono Bwy3.size)
              clear hb Lwy3 Mwy3 Bwy3
              go_wp2_with fail
              refine (holder_any (i := i) h' Mwy4 HI.out (by rw [HY.out])).mono ?_
              rintro r wy5 ⟨rfl, hb⟩
              have Lwy5 := Lwy4.below hb (Nat.le_refl _)
              have Mwy5 := Mwy4.below hb (Nat.le_refl _)
              have Bwy5 := Bwy4.trans (hb.mono Bwy4.size)
              clear hb Lwy4 Mwy4 Bwy4
              go_wp2_with fail
              refine (poisoned_any (i := i) true Lwy5 HI.out (by rw [HX.out])).mono ?_
              rintro r wy6 ⟨rfl, hb⟩
              have Lwy6 := Lwy5.below hb (Nat.le_refl _)
              have Mwy6 := Mwy5.below hb (Nat.le_refl _)
              have Bwy6 := Bwy5.trans (hb.mono Bwy5.size)
              clear hb Lwy5 Mwy5 Bwy5
              go_wp2_with fail
              refine (poisoned_any (i := i) true Mwy6 HI.out (by rw [HY.out])).mono ?_
              rintro r wy7 ⟨rfl, hb⟩
              have Lwy7 := Lwy6.below hb (Nat.le_refl _)
              have Mwy7 := Mwy6.below hb (Nat.le_refl _)
              have Bwy7 := Bwy6.trans (hb.mono Bwy6.size)
              clear hb Lwy6 Mwy6 Bwy6
              go_wp2_with fail
              refine (poisoned_any (i := i) true Lwy7 HI.out (by rw [HX.out])).mono ?_
              rintro r wy8 ⟨rfl, hb⟩
              have Lwy8 := Lwy7.below hb (Nat.le_refl _)
              have Mwy8 := Mwy7.below hb (Nat.le_refl _)
              have Bwy8 := Bwy7.trans (hb.mono Bwy7.size)
              clear hb Lwy7 Mwy7 Bwy7
              go_wp2
              go_roundw
              case rel => exact ⟨k + 1, true, S', S2', by omega, by go_num, rfl, by rw [HX.out], HZ.out, Lwy8, Mwy8.mono (by omega), Bwy8⟩
              case measure => simp [intOf] <;> omega
          ·
            have z1 : (h' != h') = false := by simp
            have z2 : (p' != p') = false := by simp
            go_wp2_with fail
            refine (holder_any (i := i) h' hL2 HI.out (by rw [HX.out])).mono ?_
            rintro r wy3 ⟨rfl, hb⟩
            have Lwy3 := hL2.below hb (Nat.le_refl _)
            have Mwy3 := hM2.below hb (Nat.le_refl _)
            have Bwy3 := hB2.trans (hb.mono hB2.size)
            clear hb hL2 hM2 hB2
            go_wp2_with fail
            refine (holder_any (i := i) h' Mwy3 HI.out (by rw [HY.out])).mono ?_
            rintro r wy4 ⟨rfl, hb⟩
            have Lwy4 := Lwy3.below hb (Nat.le_refl _)
            have Mwy4 := Mwy3.below hb (Nat.le_refl _)
            have Bwy4 := Bwy3.trans (hb.mono Bwy3.size)
            clear hb Lwy3 Mwy3 Bwy3
            go_wp2_with fail
            refine (poisoned_any (i := i) p' Lwy4 HI.out (by rw [HX.out])).mono ?_
            rintro r wy5 ⟨rfl, hb⟩
            have Lwy5 := Lwy4.below hb (Nat.le_refl _)
            have Mwy5 := Mwy4.below hb (Nat.le_refl _)
            have Bwy5 := Bwy4.trans (hb.mono Bwy4.size)
            clear hb Lwy4 Mwy4 Bwy4
            go_wp2_with fail
            refine (poisoned_any (i := i) p' Mwy5 HI.out (by rw [HY.out])).mono ?_
            rintro r wy6 ⟨rfl, hb⟩
            have Lwy6 := Lwy5.below hb (Nat.le_refl _)
            have Mwy6 := Mwy5.below hb (Nat.le_refl _)
            have Bwy6 := Bwy5.trans (hb.mono Bwy5.size)
            clear hb Lwy5 Mwy5 Bwy5
            go_wp2_with fail
            refine (poisoned_any (i := i) p' Lwy6 HI.out (by rw [HX.out])).mono ?_
            rintro r wy7 ⟨rfl, hb⟩
            have Lwy7 := Lwy6.below hb (Nat.le_refl _)
            have Mwy7 := Mwy6.below hb (Nat.le_refl _)
            have Bwy7 := Bwy6.trans (hb.mono Bwy6.size)
            clear hb Lwy6 Mwy6 Bwy6
            go_wp2
            go_roundw
            case rel => exact ⟨k + 1, p', S', S2', by omega, by go_num, rfl, by rw [HX.out], HZ.out, Lwy7, Mwy7.mono (by omega), Bwy7⟩
            case measure => simp [intOf] <;> omega
        ·
          have b5 : (kd == 5) = false := by simpa using k5
          have HPP := Lib.hid (show pv = true → p' = true from fun e => by have := do_poison (S := S) (a := ⟨kd, i, t, p⟩) (HP.out.trans e) (fun h => k5 h.1); rw [HS'.out] at this; rw [HX.out] at this; exact this)
          clear k5
          cases ok
          all_goals
            cases pv
            ·
              have z1 : (h' != h') = false := by simp
              have z2 : (p' != p') = false := by simp
              go_wp2_with fail
              refine (holder_any (i := i) h' hL2 HI.out (by rw [HX.out])).mono ?_
              rintro r wy3 ⟨rfl, hb⟩
              have Lwy3 := hL2.below hb (Nat.le_refl _)
              have Mwy3 := hM2.below hb (Nat.le_refl _)
              have Bwy3 := hB2.trans (hb.mono hB2.size)
              clear hb hL2 hM2 hB2
              go_wp2_with fail
              refine (holder_any (i := i) h' Mwy3 HI.out (by rw [HY.out])).mono ?_
              rintro r wy4 ⟨rfl, hb⟩
              have Lwy4 := Lwy3.below hb (Nat.le_refl _)
              have Mwy4 := Mwy3.below hb (Nat.le_refl _)
              have Bwy4 := Bwy3.trans (hb.mono Bwy3.size)
              clear hb Lwy3 Mwy3 Bwy3
              go_wp2_with fail
              refine (poisoned_any (i := i) p' Lwy4 HI.out (by rw [HX.out])).mono ?_
              rintro r wy5 ⟨rfl, hb⟩
              have Lwy5 := Lwy4.below hb (Nat.le_refl _)
              have Mwy5 := Mwy4.below hb (Nat.le_refl _)
              have Bwy5 := Bwy4.trans (hb.mono Bwy4.size)
              clear hb Lwy4 Mwy4 Bwy4
              go_wp2_with fail
              refine (poisoned_any (i := i) p' Mwy5 HI.out (by rw [HY.out])).mono ?_
              rintro r wy6 ⟨rfl, hb⟩
              have Lwy6 := Lwy5.below hb (Nat.le_refl _)
              have Mwy6 := Mwy5.below hb (Nat.le_refl _)
              have Bwy6 := Bwy5.trans (hb.mono Bwy5.size)
              clear hb Lwy5 Mwy5 Bwy5
              go_wp2_with fail
              refine (poisoned_any (i := i) p' Lwy6 HI.out (by rw [HX.out])).mono ?_
              rintro r wy7 ⟨rfl, hb⟩
              have Lwy7 := Lwy6.below hb (Nat.le_refl _)
              have Mwy7 := Mwy6.below hb (Nat.le_refl _)
              have Bwy7 := Bwy6.trans (hb.mono Bwy6.size)
              clear hb Lwy6 Mwy6 Bwy6
              go_wp2
              go_roundw
              case rel => exact ⟨k + 1, p', S', S2', by omega, by go_num, rfl, by rw [HX.out], HZ.out, Lwy7, Mwy7.mono (by omega), Bwy7⟩
              case measure => simp [intOf] <;> omega
            ·
              obtain rfl : p' = true := by first | exact HPP.out rfl | exact HPP.out trivial | simpa using HPP.out
              have z1 : (h' != h') = false := by simp
              go_wp2_with fail
              refine (poisoned_any (i := i) true hL2 HI.out (by rw [HX.out])).mono ?_
              rintro r wy3 ⟨rfl, hb⟩
              have Lwy3 := hL2.below hb (Nat.le_refl _)
              have Mwy3 := hM2.below hb (Nat.le_refl _)
              have Bwy3 := hB2.trans (hb.mono hB2.size)
              clear hb hL2 hM2 hB2
              go_wp2_with fail
              refine (holder_any (i := i) h' Lwy3 HI.out (by rw [HX.out])).mono ?_
              rintro r wy4 ⟨rfl, hb⟩
              have Lwy4 := Lwy3.below hb (Nat.le_refl _)
              have Mwy4 := Mwy3.below hb (Nat.le_refl _)
              have Bwy4 := Bwy3.trans (hb.mono Bwy3.size)
              clear hb Lwy3 Mwy3 Bwy3
              go_wp2_with fail
              refine (holder_any (i := i) h' Mwy4 HI.out (by rw [HY.out])).mono ?_
              rintro r wy5 ⟨rfl, hb⟩
              have Lwy5 := Lwy4.below hb (Nat.le_refl _)
              have Mwy5 := Mwy4.below hb (Nat.le_refl _)
              have Bwy5 := Bwy4.trans (hb.mono Bwy4.size)
              clear hb Lwy4 Mwy4 Bwy4
              go_wp2_with fail
              refine (poisoned_any (i := i) true Lwy5 HI.out (by rw [HX.out])).mono ?_
              rintro r wy6 ⟨rfl, hb⟩
              have Lwy6 := Lwy5.below hb (Nat.le_refl _)
              have Mwy6 := Mwy5.below hb (Nat.le_refl _)
              have Bwy6 := Bwy5.trans (hb.mono Bwy5.size)
              clear hb Lwy5 Mwy5 Bwy5
              go_wp2_with fail
              refine (poisoned_any (i := i) true Mwy6 HI.out (by rw [HY.out])).mono ?_
              rintro r wy7 ⟨rfl, hb⟩
              have Lwy7 := Lwy6.below hb (Nat.le_refl _)
              have Mwy7 := Mwy6.below hb (Nat.le_refl _)
              have Bwy7 := Bwy6.trans (hb.mono Bwy6.size)
              clear hb Lwy6 Mwy6 Bwy6
              go_wp2_with fail
              refine (poisoned_any (i := i) true Lwy7 HI.out (by rw [HX.out])).mono ?_
              rintro r wy8 ⟨rfl, hb⟩
              have Lwy8 := Lwy7.below hb (Nat.le_refl _)
              have Mwy8 := Mwy7.below hb (Nat.le_refl _)
              have Bwy8 := Bwy7.trans (hb.mono Bwy7.size)
              clear hb Lwy7 Mwy7 Bwy7
              go_wp2
              go_roundw
              case rel => exact ⟨k + 1, true, S', S2', by omega, by go_num, rfl, by rw [HX.out], HZ.out, Lwy8, Mwy8.mono (by omega), Bwy8⟩
              case measure => simp [intOf] <;> omega
      ·
        have bi : (i == a1) = false := by simpa using hid
        have HZ := Lib.hid (show S2 a1 = S' a1 by rw [HSS.out, ← HS'.out, do_other hid])
        obtain ⟨h', hh'⟩ : ∃ h', h' = (findV S' a1).1 := ⟨_, rfl⟩
        obtain ⟨p', hp'⟩ : ∃ p', p' = (findV S' a1).2 := ⟨_, rfl⟩
        have HX := Lib.hid (show findV S' a1 = (h', p') by rw [hh', hp'])
        have HY := Lib.hid (show findV S2 a1 = (h', p') by rw [← HX.out]; unfold findV; rw [HZ.out])
        obtain rfl : p' = pv := by rw [hp', ← HP.out, ← HS'.out, find_other hid]
        clear hh' hp' hid
        cases p'
        ·
          have z1 : (h' != h') = false := by simp
          have z2 : (false != false) = false := by simp
          go_wp2_with fail
          refine (holder_any (i := a1) h' hL1 HI.out (by rw [HX.out])).mono ?_
          rintro r wy3 ⟨rfl, hb⟩
          have Lwy3 := hL1.below hb (Nat.le_refl _)
          have Mwy3 := hM1.below hb (Nat.le_refl _)
          have Bwy3 := hB1.trans (hb.mono hB1.size)
          clear hb hL1 hM1 hB1
          go_wp2_with fail
          refine (holder_any (i := a1) h' Mwy3 HI.out (by rw [HY.out])).mono ?_
          rintro r wy4 ⟨rfl, hb⟩
          have Lwy4 := Lwy3.below hb (Nat.le_refl _)
          have Mwy4 := Mwy3.below hb (Nat.le_refl _)
          have Bwy4 := Bwy3.trans (hb.mono Bwy3.size)
          clear hb Lwy3 Mwy3 Bwy3
          go_wp2_with fail
          refine (poisoned_any (i := a1) false Lwy4 HI.out (by rw [HX.out])).mono ?_
          rintro r wy5 ⟨rfl, hb⟩
          have Lwy5 := Lwy4.below hb (Nat.le_refl _)
          have Mwy5 := Mwy4.below hb (Nat.le_refl _)
          have Bwy5 := Bwy4.trans (hb.mono Bwy4.size)
          clear hb Lwy4 Mwy4 Bwy4
          go_wp2_with fail
          refine (poisoned_any (i := a1) false Mwy5 HI.out (by rw [HY.out])).mono ?_
          rintro r wy6 ⟨rfl, hb⟩
          have Lwy6 := Lwy5.below hb (Nat.le_refl _)
          have Mwy6 := Mwy5.below hb (Nat.le_refl _)
          have Bwy6 := Bwy5.trans (hb.mono Bwy5.size)
          clear hb Lwy5 Mwy5 Bwy5
          go_wp2_with fail
          refine (poisoned_any (i := a1) false Lwy6 HI.out (by rw [HX.out])).mono ?_
          rintro r wy7 ⟨rfl, hb⟩
          have Lwy7 := Lwy6.below hb (Nat.le_refl _)
          have Mwy7 := Mwy6.below hb (Nat.le_refl _)
          have Bwy7 := Bwy6.trans (hb.mono Bwy6.size)
          clear hb Lwy6 Mwy6 Bwy6
          go_wp2
          go_roundw
          case rel => exact ⟨k + 1, false, S', S2, by omega, by go_num, rfl, by rw [HX.out], HZ.out, Lwy7, Mwy7.mono (by omega), Bwy7⟩
          case measure => simp [intOf] <;> omega
        ·
          have z1 : (h' != h') = false := by simp
          go_wp2_with fail
          refine (poisoned_any (i := a1) true hL1 HI.out (by rw [HX.out])).mono ?_
          rintro r wy3 ⟨rfl, hb⟩
          have Lwy3 := hL1.below hb (Nat.le_refl _)
          have Mwy3 := hM1.below hb (Nat.le_refl _)
          have Bwy3 := hB1.trans (hb.mono hB1.size)
          clear hb hL1 hM1 hB1
          go_wp2_with fail
          refine (holder_any (i := a1) h' Lwy3 HI.out (by rw [HX.out])).mono ?_
          rintro r wy4 ⟨rfl, hb⟩
          have Lwy4 := Lwy3.below hb (Nat.le_refl _)
          have Mwy4 := Mwy3.below hb (Nat.le_refl _)
          have Bwy4 := Bwy3.trans (hb.mono Bwy3.size)
          clear hb Lwy3 Mwy3 Bwy3
          go_wp2_with fail
          refine (holder_any (i := a1) h' Mwy4 HI.out (by rw [HY.out])).mono ?_
          rintro r wy5 ⟨rfl, hb⟩
          have Lwy5 := Lwy4.below hb (Nat.le_refl _)
          have Mwy5 := Mwy4.below hb (Nat.le_refl _)
          have Bwy5 := Bwy4.trans (hb.mono Bwy4.size)
          clear hb Lwy4 Mwy4 Bwy4
          go_wp2_with fail
          refine (poisoned_any (i := a1) true Lwy5 HI.out (by rw [HX.out])).mono ?_
          rintro r wy6 ⟨rfl, hb⟩
          have Lwy6 := Lwy5.below hb (Nat.le_refl _)
          have Mwy6 := Mwy5.below hb (Nat.le_refl _)
          have Bwy6 := Bwy5.trans (hb.mono Bwy5.size)
          clear hb Lwy5 Mwy5 Bwy5
          go_wp2_with fail
          refine (poisoned_any (i := a1) true Mwy6 HI.out (by rw [HY.out])).mono ?_
          rintro r wy7 ⟨rfl, hb⟩
          have Lwy7 := Lwy6.below hb (Nat.le_refl _)
          have Mwy7 := Mwy6.below hb (Nat.le_refl _)
          have Bwy7 := Bwy6.trans (hb.mono Bwy6.size)
          clear hb Lwy6 Mwy6 Bwy6
          go_wp2_with fail
          refine (poisoned_any (i := a1) true Lwy7 HI.out (by rw [HX.out])).mono ?_
          rintro r wy8 ⟨rfl, hb⟩
          have Lwy8 := Lwy7.below hb (Nat.le_refl _)
          have Mwy8 := Mwy7.below hb (Nat.le_refl _)
          have Bwy8 := Bwy7.trans (hb.mono Bwy7.size)
          clear hb Lwy7 Mwy7 Bwy7
          go_wp2
          go_roundw
          case rel => exact ⟨k + 1, true, S', S2, by omega, by go_num, rfl, by rw [HX.out], HZ.out, Lwy8, Mwy8.mono (by omega), Bwy8⟩
          case measure => simp [intOf] <;> omega
    · obtain rfl : k = l0 := by omega
      go_wp2
      go_ret
      exact ⟨rfl, hB⟩
end Go.Proofs.Ythbajgpoldajmaa
