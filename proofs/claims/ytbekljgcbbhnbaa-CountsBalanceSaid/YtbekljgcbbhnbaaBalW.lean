/- CountsBalance: the walk. -/
import Derived.Test.YtbekljgcbbhnbaaActs
import Derived.Deep.RegionHeld3
namespace Go.Proofs.Ytbekljgcbbhnbaa
open Go.RowKit

set_option maxRecDepth 100000 in
set_option maxHeartbeats 800000 in
theorem balWalk (A0 : Option Addr) (c0 : Nat) (L : List Act3) (id e : Int) (w : World) (h0 : Rd w w.heap.size 3 actC A0 L) (g0 : ∀ x ∈ L, actG x) (iid : (Lit.int .i64 id).wf = true) (ie : (Lit.int .i64 e).wf = true) :
    Calls Try.prog 4 #[.slice A0 L.length c0, .int .i64 id, .int .i64 e] w fun r w' => r = .returned (.bool true) ∧ Below w.heap.size w w' := by
  obtain ⟨n, hn⟩ : ∃ n, n = L.length := ⟨_, rfl⟩
  rw [← hn]
  have HN := Lib.hid hn
  clear hn
  by_cases hbig : 200 < n
  · go_enter Try.func4, Try.ntmps4
    go_wp2_with (go_at_call 15; refine (awake_any w).mono ?_; rintro r wa ⟨rfl, hba⟩)
    go_ret
    exact ⟨rfl, hba⟩
  have hn200 : n ≤ 200 := by omega
  have HG := Lib.hid g0
  clear g0
  go_enter Try.func4, Try.ntmps4
  go_wp2_with fail
  refine (awake_any w).mono ?_
  rintro r wa ⟨rfl, hba⟩
  go_wp2_with fail
  refine (new_any wa).mono ?_
  rintro r w1 ⟨gc, gm, rfl, h1, hb1, hgm, hgc⟩
  go_wp2
  go_loopw [8, 9, 10] (fun ad tk i wr => ∃ (k a t : Nat) (c : Int → Int → Int), k ≤ n ∧ t ≤ a ∧ a ≤ k ∧ i = .int .i64 k ∧ ad = .int .i64 a ∧ tk = .int .i64 t ∧ CIs wr gc gm k c ∧ c id e = (a : Int) - t ∧ Below wa.heap.size wa wr) (fun _ _ i _ => n - (intOf i).toNat)
  case atStart => exact ⟨0, 0, 0, _, by omega, by omega, by omega, rfl, rfl, rfl, h1, rfl, hb1⟩
  case round =>
    obtain ⟨k, a, t, c, hk, hta, hak, rfl, rfl, rfl, hC, hce, hB⟩ := hrel
    by_cases hlt : k < n
    · have hr := (h0.below hba).more hba.size
      have hr := hr.below hB
      obtain ⟨b, off, l, i, x, hx, rfl, hbb, hc0, hc1, hc2⟩ := hr.act (by rw [← HN.out]; exact hlt)
      obtain ⟨gi, gx⟩ := HG.out _ (List.mem_of_getElem? hx)
      simp only at gi gx
      have hcd := hC.drew
      have hBd := hB.drew
      have hcn := hC.nonneg i x
      have hbg : some b ≠ some gm := by intro h; cases h; omega
      have HCE := Lib.hid hce
      clear hce h1 hb1 hr h0 hB hC HG
      rcases Decidable.em (i = id ∧ x = e) with hmine | hother
      · obtain ⟨rfl, rfl⟩ := hmine
        cases l
        · rcases Bool.eq_false_or_eq_true (fineB x) with hf | hf
          · have EV : addS c i x i x = (a : Int) + 1 - t := by rw [(add_yes hf).2, HCE.out]; omega
            obtain ⟨rv, hrv⟩ : ∃ rv, rv = c i x + 1 := ⟨_, rfl⟩
            have hpos : 0 < rv := by omega
            have ER : addR c i x = rv := by rw [hrv]; exact (add_yes hf).1
            have hta' : t ≤ a + 1 := by omega
            clear hf hrv hcn
            go_wp2
            go_still_tail 11, (by kernel_rfl)
            go_wp2_with fail
            refine (add_all _ rv hcd gi gx (by omega) ER rfl).mono ?_
            rintro r w2 ⟨rfl, h2, hg2⟩
            have hb2 := below_step hBd hg2 hgm
            go_wp2_with fail
            refine (of_all _ h2 iid ie EV).mono ?_
            rintro r w' ⟨rfl, rfl⟩
            go_wp2
            go_roundw
            case rel => exact ⟨k + 1, a + 1, t, _, by omega, by omega, by omega, by go_num, by go_num, by go_num, h2, EV.trans (by simp), hb2⟩
            case measure => simp [intOf] <;> omega
          · have EV : addS c i x i x = (a : Int) - t := by rw [(add_not hf).2, HCE.out]
            have ER : addR c i x = 0 := (add_not hf).1
            clear hf hcn
            go_wp2
            go_still_tail 11, (by kernel_rfl)
            go_wp2_with fail
            refine (add_all _ 0 hcd gi gx (by omega) ER rfl).mono ?_
            rintro r w2 ⟨rfl, h2, hg2⟩
            have hb2 := below_step hBd hg2 hgm
            go_wp2_with fail
            refine (of_all _ h2 iid ie EV).mono ?_
            rintro r w' ⟨rfl, rfl⟩
            go_wp2
            go_roundw
            case rel => exact ⟨k + 1, a, t, _, by omega, by omega, by omega, by go_num, by go_num, by go_num, h2, EV.trans (by simp), hb2⟩
            case measure => simp [intOf] <;> omega
        · by_cases hz : c i x = 0
          · have EV : lessS c i x i x = (a : Int) - t := by rw [(less_no hz).2.2, HCE.out]
            have EB : lessB c i x = false := (less_no hz).2.1
            clear hz hcn
            go_wp2
            go_region_held3 (fun w' => w'.cell? ⟨b, off + k * 3 + 1, none⟩ = some (.int .i64 i) ∧ w'.cell? ⟨b, off + k * 3 + 2, none⟩ = some (.int .i64 x)) (first | exact ⟨hc1, hc2⟩ | exact ⟨hc1', hc2'⟩)
              (first | (go_at_call 9; refine (less_all _ _ false hcd gi gx (by omega) rfl EB rfl).mono ?_; rintro r w2 ⟨rfl, h2, hg2⟩; have hb2 := below_step hBd hg2 hgm; have hc1' := (hg2.cell hc1 hbg); have hc2' := (hg2.cell hc2 hbg)))
            go_wp2_with fail
            refine (of_all _ h2 iid ie EV).mono ?_
            rintro r w' ⟨rfl, rfl⟩
            go_wp2
            go_roundw
            case rel => exact ⟨k + 1, a, t, _, by omega, by omega, by omega, by go_num, by go_num, by go_num, h2, EV.trans (by simp), hb2⟩
            case measure => simp [intOf] <;> omega
          · have EV : lessS c i x i x = (a : Int) - ((t : Int) + 1) := by rw [(less_yes hz).2.2, HCE.out]; omega
            have EB : lessB c i x = true := (less_yes hz).2.1
            have hta' : t + 1 ≤ a := by have := HCE.out; omega
            clear hz hcn
            go_wp2
            go_region_held3 (fun w' => w'.cell? ⟨b, off + k * 3 + 1, none⟩ = some (.int .i64 i) ∧ w'.cell? ⟨b, off + k * 3 + 2, none⟩ = some (.int .i64 x)) (first | exact ⟨hc1, hc2⟩ | exact ⟨hc1', hc2'⟩)
              (first | (go_at_call 9; refine (less_all _ _ true hcd gi gx (by omega) rfl EB rfl).mono ?_; rintro r w2 ⟨rfl, h2, hg2⟩; have hb2 := below_step hBd hg2 hgm; have hc1' := (hg2.cell hc1 hbg); have hc2' := (hg2.cell hc2 hbg)))
            go_wp2_with fail
            refine (of_all _ h2 iid ie EV).mono ?_
            rintro r w' ⟨rfl, rfl⟩
            go_wp2
            go_roundw
            case rel => exact ⟨k + 1, a, t + 1, _, by omega, by omega, by omega, by go_num, by go_num, by go_num, h2, EV.trans (by simp), hb2⟩
            case measure => simp [intOf] <;> omega
      · have hoth : i ≠ id ∨ x ≠ e := if h : i = id then .inr (fun h2 => hother ⟨h, h2⟩) else .inl h
        have EVL : lessS c i x id e = (a : Int) - t := by rw [less_other hoth, HCE.out]
        have EVA : addS c i x id e = (a : Int) - t := by rw [add_other hoth, HCE.out]
        have HL := Lib.hid EVL
        have HA := Lib.hid EVA
        clear EVL EVA hother hcn
        rcases Decidable.em (i = id) with h | h
        · have bi : (i == id) = true := by simpa using h
          have hx2 : x ≠ e := fun h2 => hoth.elim (fun h3 => h3 h) (fun h3 => h3 h2)
          have bx : (x == e) = false := by simpa using hx2
          have hmm : (i == id && x == e) = false := by simp [bi, bx]
          clear hoth h hx2
          cases l
          · obtain ⟨rv, hrv⟩ : ∃ rv, rv = addR c i x := ⟨_, rfl⟩
            have ER : addR c i x = rv := hrv.symm
            clear hrv
            have EV := HA.out
            clear HL HA
            by_cases hpos : 0 < rv
            all_goals
              go_wp2
              go_still_tail 11, (by kernel_rfl)
              go_wp2_with fail
              refine (add_all _ rv hcd gi gx (by omega) ER rfl).mono ?_
              rintro r w2 ⟨rfl, h2, hg2⟩
              have hb2 := below_step hBd hg2 hgm
              go_wp2_with fail
              refine (of_all _ h2 iid ie EV).mono ?_
              rintro r w' ⟨rfl, rfl⟩
              go_wp2
              go_roundw
              case rel => exact ⟨k + 1, a, t, _, by omega, by omega, by omega, by go_num, by go_num, by go_num, h2, EV.trans (by simp), hb2⟩
              case measure => simp [intOf] <;> omega
          · obtain ⟨fb, hfb⟩ : ∃ fb, fb = lessB c i x := ⟨_, rfl⟩
            have EB : lessB c i x = fb := hfb.symm
            clear hfb
            have EV := HL.out
            clear HL HA
            cases fb
            all_goals
              go_wp2
              go_region_held3 (fun w' => w'.cell? ⟨b, off + k * 3 + 1, none⟩ = some (.int .i64 i) ∧ w'.cell? ⟨b, off + k * 3 + 2, none⟩ = some (.int .i64 x)) (first | exact ⟨hc1, hc2⟩ | exact ⟨hc1', hc2'⟩)
                (first | (go_at_call 9; refine (less_all _ _ _ hcd gi gx (by omega) rfl EB rfl).mono ?_; rintro r w2 ⟨rfl, h2, hg2⟩; have hb2 := below_step hBd hg2 hgm; have hc1' := (hg2.cell hc1 hbg); have hc2' := (hg2.cell hc2 hbg)))
              go_wp2_with fail
              refine (of_all _ h2 iid ie EV).mono ?_
              rintro r w' ⟨rfl, rfl⟩
              go_wp2
              go_roundw
              case rel => exact ⟨k + 1, a, t, _, by omega, by omega, by omega, by go_num, by go_num, by go_num, h2, EV.trans (by simp), hb2⟩
              case measure => simp [intOf] <;> omega
        · have bi : (i == id) = false := by simpa using h
          clear hoth h
          cases l
          · obtain ⟨rv, hrv⟩ : ∃ rv, rv = addR c i x := ⟨_, rfl⟩
            have ER : addR c i x = rv := hrv.symm
            clear hrv
            have EV := HA.out
            clear HL HA
            by_cases hpos : 0 < rv
            all_goals
              go_wp2
              go_still_tail 11, (by kernel_rfl)
              go_wp2_with fail
              refine (add_all _ rv hcd gi gx (by omega) ER rfl).mono ?_
              rintro r w2 ⟨rfl, h2, hg2⟩
              have hb2 := below_step hBd hg2 hgm
              go_wp2_with fail
              refine (of_all _ h2 iid ie EV).mono ?_
              rintro r w' ⟨rfl, rfl⟩
              go_wp2
              go_roundw
              case rel => exact ⟨k + 1, a, t, _, by omega, by omega, by omega, by go_num, by go_num, by go_num, h2, EV.trans (by simp), hb2⟩
              case measure => simp [intOf] <;> omega
          · obtain ⟨fb, hfb⟩ : ∃ fb, fb = lessB c i x := ⟨_, rfl⟩
            have EB : lessB c i x = fb := hfb.symm
            clear hfb
            have EV := HL.out
            clear HL HA
            cases fb
            all_goals
              go_wp2
              go_region_held3 (fun w' => w'.cell? ⟨b, off + k * 3 + 1, none⟩ = some (.int .i64 i) ∧ w'.cell? ⟨b, off + k * 3 + 2, none⟩ = some (.int .i64 x)) (first | exact ⟨hc1, hc2⟩ | exact ⟨hc1', hc2'⟩)
                (first | (go_at_call 9; refine (less_all _ _ _ hcd gi gx (by omega) rfl EB rfl).mono ?_; rintro r w2 ⟨rfl, h2, hg2⟩; have hb2 := below_step hBd hg2 hgm; have hc1' := (hg2.cell hc1 hbg); have hc2' := (hg2.cell hc2 hbg)))
              go_wp2_with fail
              refine (of_all _ h2 iid ie EV).mono ?_
              rintro r w' ⟨rfl, rfl⟩
              go_wp2
              go_roundw
              case rel => exact ⟨k + 1, a, t, _, by omega, by omega, by omega, by go_num, by go_num, by go_num, h2, EV.trans (by simp), hb2⟩
              case measure => simp [intOf] <;> omega
    · obtain rfl : k = n := by omega
      go_wp2
      go_ret
      exact ⟨rfl, hba.trans (hB.mono hba.size)⟩
end Go.Proofs.Ytbekljgcbbhnbaa
