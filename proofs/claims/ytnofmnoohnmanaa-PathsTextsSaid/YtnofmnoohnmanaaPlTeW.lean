/- PathsTexts: the walk. -/
import Derived.Test.YtnofmnoohnmanaaPlI
import Derived.Test.YtnofmnoohnmanaaPlO
namespace Go.Proofs.Ytnofmnoohnmanaa
open Go.RowKit
set_option linter.unusedVariables false
set_option linter.unusedSimpArgs false


set_option maxHeartbeats 6400000 in
set_option maxRecDepth 100000 in
theorem pathsTexts_walk (x0 : Pl) (w : World) (g0 : PlOk w w.heap.size x0) :
    Calls Try.prog 4 #[.agg #[.string x0.name, .slice x0.pa x0.path.length x0.pc]] w fun r w' => r = .returned (.bool true) ∧ Below w.heap.size w w' := by
  obtain ⟨W0, hW0⟩ : ∃ W0, W0 = (w.alloc (.cells #[.string x0.name, .slice x0.pa x0.path.length x0.pc] 24)) := ⟨_, rfl⟩
  have hB0 : Below w.heap.size w W0 := by rw [hW0]; exact ((Below.refl _ _).alloc (Nat.le_refl _) _)
  have hk0 : Blk W0 w.heap.size 24 #[.string x0.name, .slice x0.pa x0.path.length x0.pc] := by rw [hW0]; exact blk_at (Blk.new w _ _) (by simp)
  have HK0 := Lib.hid hk0
  have Hx0 := Lib.hid (fun W (h : Below W0.heap.size W0 W) => (g0.next hB0).next h)
  have HB0 := Lib.hid hB0
  have HW0 := Lib.hid hW0
  have HB := Lib.hid (Below.refl W0.heap.size W0)
  have HAW := Lib.hid (fun W (_ : Below W0.heap.size W0 W) => awake_yes W)
  have c0a := bx0 (HK0.out.below HB.out HK0.out.lt)
  have c0b := bx1 (HK0.out.below HB.out HK0.out.lt)
  have z0 := (HK0.out.below HB.out HK0.out.lt).lt
  clear hB0 hk0
  obtain ⟨l0, hl0⟩ : ∃ b, longB x0 = b := ⟨_, rfl⟩
  have CL0 := Lib.hid (fun W (h : Below W0.heap.size W0 W) => long_bool x0 hl0 W (Hx0.out W h))
  cases l0 with
  | true =>
    clear hl0
    go_enter Try.func4, Try.ntmps4
    go_wp2_with fail
    rw [← HW0.out]
    clear hW0
    go_wp2_with (first
      | ((with_reducible refine (CL0.out _ HB.out).mono ?_); rintro r wn ⟨rfl, hbn⟩; have HB := Lib.hid (HB.out.trans (hbn.mono HB.out.size)); clear hbn; have c0a := bx0 (HK0.out.below HB.out HK0.out.lt); have c0b := bx1 (HK0.out.below HB.out HK0.out.lt); have z0 := (HK0.out.below HB.out HK0.out.lt).lt))
    go_wp2
    go_ret
    exact ⟨rfl, HB0.out.trans (HB.out.mono HB0.out.size)⟩
  | false =>
    obtain ⟨n1, n2, n3⟩ := longB_no hl0
    have HTX := Lib.hid (fun W (h : Below W0.heap.size W0 W) => text_any x0 W (Hx0.out W h) (by omega) n2 n3)
    have HRT := Lib.hid (fun W (h : Below W0.heap.size W0 W) => rtext_any x0 W (Hx0.out W h) (by omega) n2 n3)
    have HTR := Lib.hid (fun W (h : Below W0.heap.size W0 W) => through_any x0 W (Hx0.out W h) (by omega))
    obtain ⟨lx, hlx⟩ : ∃ n, x0.path.length = n := ⟨_, rfl⟩
    have HLX := Lib.hid hlx
    have hl100 : lx ≤ 100 := by omega
    have HRD := Lib.hid (fun W (h : Below W0.heap.size W0 W) => (Hx0.out W h).rd)
    rw [hlx] at CL0 HK0 HW0 HTX HRT HTR c0b ⊢
    obtain ⟨tx, htx⟩ : ∃ tx : ByteArray, tx = ⟨(textL x0.name x0.path).toArray⟩ := ⟨_, rfl⟩
    rw [← htx] at HTX HRT
    clear hl0 n1 n2 n3 hlx hW0 htx
    go_enter Try.func4, Try.ntmps4
    go_wp2_with fail
    rw [← HW0.out]
    go_wp2_with (first
      | ((with_reducible refine (CL0.out _ HB.out).mono ?_); rintro r wn ⟨rfl, hbn⟩; have HB := Lib.hid (HB.out.trans (hbn.mono HB.out.size)); clear hbn; have c0a := bx0 (HK0.out.below HB.out HK0.out.lt); have c0b := bx1 (HK0.out.below HB.out HK0.out.lt); have z0 := (HK0.out.below HB.out HK0.out.lt).lt))
    go_loop [3, 4] (fun n i => ∃ k : Nat, k ≤ lx ∧ i = .int .i64 k ∧ n = .int .i64 (thrL (x0.path.take k))) (fun _ i => lx - (intOf i).toNat)
    case atStart => exact ⟨0, by omega, rfl, rfl⟩
    case round =>
      obtain ⟨k, hk, rfl, rfl⟩ := hrel
      by_cases hlt : k < lx
      · obtain ⟨b, off, s, hs, hpa, hb, hc⟩ := (HRD.out _ HB.out).str (k := k) (by rw [HLX.out]; exact hlt)
        have hki : (k : Int) < (lx : Int) := by omega
        have hbd : thrL (x0.path.take k) ≤ k := Nat.le_trans (thrL_le _) (List.length_take_le _ _)
        rw [hpa] at c0b
        obtain ⟨e, he⟩ : ∃ e, (s.toList == star.toList) = e := ⟨_, rfl⟩
        have HS := Lib.hid (thrL_succ hs)
        rw [he] at HS
        have he' : (s.toList == [42]) = e := by rw [← star_l]; exact he
        obtain ⟨t, ht⟩ : ∃ t, t = thrL (x0.path.take k) := ⟨_, rfl⟩
        rw [← ht] at hbd HS ⊢
        clear hs he ht hpa
        cases e
        · go_wp2
          go_round
          case rel => exact ⟨k + 1, by omega, by go_num, by rw [HS.out]; rfl⟩
          case measure => simp [intOf] <;> omega
        · go_wp2
          go_round
          case rel => exact ⟨k + 1, by omega, by go_num, by rw [HS.out]; simp⟩
          case measure => simp [intOf] <;> omega
      · obtain rfl : k = lx := by omega
        have hT : x0.path.take k = x0.path := by rw [← HLX.out, List.take_length]
        rw [hT]
        obtain ⟨t, ht⟩ : ∃ t, t = thrL x0.path := ⟨_, rfl⟩
        rw [← ht] at HTR ⊢
        clear hT ht
        go_wp2_with fail
        have c0a := cell_regrown c0a
        have c0b := cell_regrown c0b
        refine wp_region_quiet_below (by kernel_rfl) (by kernel_rfl) ?_
        repeat (first | go_big_quiet_step ((first | exact Calls.regrown_of (HTX.out _ (HB.out.trans ((below_regrown wn _ _).mono HB.out.size))) | exact Calls.regrown_of (HRT.out _ (HB.out.trans ((below_regrown wn _ _).mono HB.out.size))) | exact Calls.regrown_of (HTR.out _ (HB.out.trans ((below_regrown wn _ _).mono HB.out.size))) | exact Calls.regrown_of (HAW.out _ (HB.out.trans ((below_regrown wn _ _).mono HB.out.size))))) | quiet_step ((first | exact Calls.regrown_of (HTX.out _ (HB.out.trans ((below_regrown wn _ _).mono HB.out.size))) | exact Calls.regrown_of (HRT.out _ (HB.out.trans ((below_regrown wn _ _).mono HB.out.size))) | exact Calls.regrown_of (HTR.out _ (HB.out.trans ((below_regrown wn _ _).mono HB.out.size))) | exact Calls.regrown_of (HAW.out _ (HB.out.trans ((below_regrown wn _ _).mono HB.out.size))))))
        refine wpQuiet_nil ?_
        intro W2 hW2e
        obtain ⟨⟨dq, osq⟩, hW2⟩ := hW2e
        have hbl2 : Below W0.heap.size W0 W2 := by rw [hW2]; exact HB.out.trans ((below_regrown wn dq osq).mono HB.out.size)
        have HB := Lib.hid hbl2
        clear hW2 hbl2 c0a c0b z0
        have c0a := bx0 (HK0.out.below HB.out HK0.out.lt)
        have c0b := bx1 (HK0.out.below HB.out HK0.out.lt)
        have z0 := (HK0.out.below HB.out HK0.out.lt).lt
        go_wp2
        go_ret
        exact ⟨rfl, HB0.out.trans (HB.out.mono HB0.out.size)⟩
end Go.Proofs.Ytnofmnoohnmanaa
