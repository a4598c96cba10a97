/- CountsApart: the walk. -/
import Derived.Test.YtbekljgcbbhnbaaActs
import Derived.Deep.RegionHeld3
namespace Go.Proofs.Ytbekljgcbbhnbaa
open Go.RowKit

theorem less_close (c : Int → Int → Int) (i x : Int) : lessS c i x i x - c i x ≤ 1 ∧ c i x - lessS c i x i x ≤ 1 ∧ lessS c i x i x ≤ c i x := by
  by_cases h : c i x = 0
  · rw [(less_no h).2.2]; omega
  · rw [(less_yes h).2.2]; omega
theorem add_close (c : Int → Int → Int) (i x : Int) : addS c i x i x - c i x ≤ 1 ∧ c i x - addS c i x i x ≤ 1 ∧ c i x ≤ addS c i x i x := by
  cases h : fineB x
  · rw [(add_not h).2]; omega
  · rw [(add_yes h).2]; omega

set_option maxRecDepth 100000 in
set_option maxHeartbeats 1600000 in
theorem apartWalk (A0 : Option Addr) (c0 : Nat) (L : List Act3) (x1 : Act3) (id e : Int) (w : World) (h0 : Rd w w.heap.size 3 actC A0 L) (g0 : ∀ x ∈ L, actG x) (g1 : actG x1) (iid : (Lit.int .i64 id).wf = true) (ie : (Lit.int .i64 e).wf = true) :
    Calls Try.prog 5 #[.slice A0 L.length c0, .agg #[.bool x1.1, .int .i64 x1.2.1, .int .i64 x1.2.2], .int .i64 id, .int .i64 e] w fun r w' => r = .returned (.bool true) ∧ Below w.heap.size w w' := by
  obtain ⟨l1, i1, e1⟩ := x1
  obtain ⟨gi1, ge1⟩ := g1
  simp only at gi1 ge1 ⊢
  obtain ⟨n, hn⟩ : ∃ n, n = L.length := ⟨_, rfl⟩
  rw [← hn]
  have HN := Lib.hid hn
  clear hn
  by_cases hbig : 200 < n
  · go_enter Try.func5, Try.ntmps5
    go_wp2_with (go_at_call 15; refine (awake_any _).mono ?_; rintro r wa ⟨rfl, hba⟩)
    go_ret
    exact ⟨rfl, ((Below.refl _ w).alloc (Nat.le_refl _) _).trans (hba.mono (by simp))⟩
  have hn200 : n ≤ 200 := by omega
  have HG := Lib.hid g0
  clear g0
  go_enter Try.func5, Try.ntmps5
  go_wp2_with fail
  refine (awake_any _).mono ?_
  rintro r wa ⟨rfl, hba⟩
  have hk0 : Blk wa w.heap.size 30 #[.bool l1, .int .i64 i1, .int .i64 e1] := (Blk.new w 30 _).below hba (by simp)
  have hba0 : Below w.heap.size w wa := ((Below.refl _ w).alloc (Nat.le_refl _) _).trans (hba.mono (by simp))
  clear hba
  go_wp2_with fail
  refine (new_any wa).mono ?_
  rintro r w1 ⟨gc, gm, rfl, h1, hb1, hgm, hgc⟩
  go_wp2
  go_loopw [10] (fun i wr => ∃ (k : Nat) (c : Int → Int → Int), k ≤ n ∧ i = .int .i64 k ∧ CIs wr gc gm k c ∧ Below wa.heap.size wa wr) (fun i _ => n - (intOf i).toNat)
  case atStart => exact ⟨0, _, by omega, rfl, h1, hb1⟩
  case round =>
    obtain ⟨k, c, hk, rfl, hC, hB⟩ := hrel
    by_cases hlt : k < n
    · have hr := ((h0.below hba0).more hba0.size).below hB
      obtain ⟨b, off, l, i, x, hx, rfl, hbb, hc0, hc1, hc2⟩ := hr.act (by rw [← HN.out]; exact hlt)
      obtain ⟨gi, gx⟩ := HG.out _ (List.mem_of_getElem? hx)
      simp only at gi gx
      have hcd := hC.drew
      have hBd := hB.drew
      clear h1 hb1 hr h0 hB hC HG hk0
      cases l
      · go_wp2
        go_still_tail 11, (by kernel_rfl)
        go_wp2_with fail
        refine (add_all _ _ hcd gi gx (by omega) rfl rfl).mono ?_
        rintro r w2 ⟨rfl, h2, hg2⟩
        have hb2 := below_step hBd hg2 hgm
        go_wp2
        go_roundw
        case rel => exact ⟨k + 1, _, by omega, by go_num, h2, hb2⟩
        case measure => simp [intOf] <;> omega
      · go_wp2
        go_still_tail 11, (by kernel_rfl)
        go_wp2_with fail
        refine (less_all _ _ _ hcd gi gx (by omega) rfl rfl rfl).mono ?_
        rintro r w2 ⟨rfl, h2, hg2⟩
        have hb2 := below_step hBd hg2 hgm
        go_wp2
        go_roundw
        case rel => exact ⟨k + 1, _, by omega, by go_num, h2, hb2⟩
        case measure => simp [intOf] <;> omega
    · have hkr := hk0.below hB hk0.lt
      have q0 := hkr.cell 0
      have q1 := hkr.cell 1
      have q2 := hkr.cell 2
      simp at q0 q1 q2
      obtain ⟨was, hwas⟩ : ∃ v, c id e = v := ⟨_, rfl⟩
      obtain ⟨own, hown⟩ : ∃ v, c i1 e1 = v := ⟨_, rfl⟩
      have HW := Lib.hid hwas
      have HO := Lib.hid hown
      have hn1 := hC.nonneg id e
      have hn2 := hC.nonneg i1 e1
      rw [hwas] at hn1
      rw [hown] at hn2
      obtain ⟨hn1a, hn1b⟩ := hn1
      obtain ⟨hn2a, hn2b⟩ := hn2
      have HC := Lib.hid hC
      clear hwas hown h1 hb1 hC h0 HG
      go_wp2
      go_quiet (first | (go_at_call 13; exact quiet_left (of_all was (HC.out.drewN _) iid ie HW.out)) | (go_at_call 13; exact quiet_left (of_all own (HC.out.drewN _) gi1 ge1 HO.out)))
      have hCd := HC.out.drewN
      have hBd := below_drewN hB
      cases l1
      · have hcl := add_close c i1 e1
        obtain ⟨now, hnow⟩ : ∃ v, addS c i1 e1 i1 e1 = v := ⟨_, rfl⟩
        rw [HO.out, hnow] at hcl
        obtain ⟨hcl1, hcl2, hcl3⟩ := hcl
        have hoth : ¬ (i1 = id ∧ e1 = e) → addS c i1 e1 id e = was := fun h => by rw [add_other (if h2 : i1 = id then .inr (fun h3 => h ⟨h2, h3⟩) else .inl h2)]; exact HW.out
        have HNOW := Lib.hid hnow
        have HOTH := Lib.hid hoth
        clear hnow hoth
        obtain ⟨rv, hrv⟩ : ∃ rv, addR c i1 e1 = rv := ⟨_, rfl⟩
        have ER := Lib.hid hrv
        clear hrv
        go_wp2_with fail
        refine (add_all _ rv (hCd _) gi1 ge1 (by omega) ER.out rfl).mono ?_
        rintro r w2 ⟨rfl, h2, hg2⟩
        have hb2 := below_step (hBd _) hg2 hgm
        have hk2 := hk0.below hb2 hk0.lt
        have q3 := hk2.cell 0
        have q4 := hk2.cell 1
        have q5 := hk2.cell 2
        simp at q3 q4 q5
        clear q0 q1 q2
        go_wp2_with fail
        refine (of_all now h2 gi1 ge1 HNOW.out).mono ?_
        rintro r w' ⟨rfl, rfl⟩
        by_cases hm : id = i1 ∧ e = e1
        · obtain ⟨rfl, rfl⟩ := hm
          go_wp2_with fail
          refine (of_all now h2 gi1 ge1 HNOW.out).mono ?_
          rintro r w' ⟨rfl, rfl⟩
          go_wp2
          go_ret
          exact ⟨rfl, hba0.trans (hb2.mono hba0.size)⟩
        · have hm2 : ¬ (i1 = id ∧ e1 = e) := fun h => hm ⟨h.1.symm, h.2.symm⟩
          have EW := Lib.hid (HOTH.out hm2)
          by_cases hi : id = i1
          · have bx : (e == e1) = false := by simp; exact fun h => hm ⟨hi, h⟩
            clear hm hm2
            subst hi
            go_wp2_with fail
            refine (of_all was h2 iid ie EW.out).mono ?_
            rintro r w' ⟨rfl, rfl⟩
            go_wp2
            go_ret
            exact ⟨rfl, hba0.trans (hb2.mono hba0.size)⟩
          · have bi : (id == i1) = false := by simpa using hi
            clear hm hm2 hi
            go_wp2_with fail
            refine (of_all was h2 iid ie EW.out).mono ?_
            rintro r w' ⟨rfl, rfl⟩
            go_wp2
            go_ret
            exact ⟨rfl, hba0.trans (hb2.mono hba0.size)⟩
      · have hcl := less_close c i1 e1
        obtain ⟨now, hnow⟩ : ∃ v, lessS c i1 e1 i1 e1 = v := ⟨_, rfl⟩
        rw [HO.out, hnow] at hcl
        obtain ⟨hcl1, hcl2, hcl3⟩ := hcl
        have hnn : 0 ≤ now := by have := hCd 0; have h5 := HC.out.nonneg i1 e1; rw [← hnow]; by_cases hz : c i1 e1 = 0
                                 · rw [(less_no hz).2.2]; omega
                                 · rw [(less_yes hz).2.2]; omega
        have hoth : ¬ (i1 = id ∧ e1 = e) → lessS c i1 e1 id e = was := fun h => by rw [less_other (if h2 : i1 = id then .inr (fun h3 => h ⟨h2, h3⟩) else .inl h2)]; exact HW.out
        have HNOW := Lib.hid hnow
        have HOTH := Lib.hid hoth
        clear hnow hoth
        go_wp2_with fail
        refine (less_all _ _ _ (hCd _) gi1 ge1 (by omega) rfl rfl rfl).mono ?_
        rintro r w2 ⟨rfl, h2, hg2⟩
        have hb2 := below_step (hBd _) hg2 hgm
        have hk2 := hk0.below hb2 hk0.lt
        have q3 := hk2.cell 0
        have q4 := hk2.cell 1
        have q5 := hk2.cell 2
        simp at q3 q4 q5
        clear q0 q1 q2
        go_wp2_with fail
        refine (of_all now h2 gi1 ge1 HNOW.out).mono ?_
        rintro r w' ⟨rfl, rfl⟩
        by_cases hm : id = i1 ∧ e = e1
        · obtain ⟨rfl, rfl⟩ := hm
          go_wp2_with fail
          refine (of_all now h2 gi1 ge1 HNOW.out).mono ?_
          rintro r w' ⟨rfl, rfl⟩
          go_wp2
          go_ret
          exact ⟨rfl, hba0.trans (hb2.mono hba0.size)⟩
        · have hm2 : ¬ (i1 = id ∧ e1 = e) := fun h => hm ⟨h.1.symm, h.2.symm⟩
          have EW := Lib.hid (HOTH.out hm2)
          by_cases hi : id = i1
          · have bx : (e == e1) = false := by simp; exact fun h => hm ⟨hi, h⟩
            clear hm hm2
            subst hi
            go_wp2_with fail
            refine (of_all was h2 iid ie EW.out).mono ?_
            rintro r w' ⟨rfl, rfl⟩
            go_wp2
            go_ret
            exact ⟨rfl, hba0.trans (hb2.mono hba0.size)⟩
          · have bi : (id == i1) = false := by simpa using hi
            clear hm hm2 hi
            go_wp2_with fail
            refine (of_all was h2 iid ie EW.out).mono ?_
            rintro r w' ⟨rfl, rfl⟩
            go_wp2
            go_ret
            exact ⟨rfl, hba0.trans (hb2.mono hba0.size)⟩
end Go.Proofs.Ytbekljgcbbhnbaa
