/- Clock: contracts of the document's Within and Join, and of long. -/
import Derived.Test.YtfhainobolfleaaD
import Derived.Test.YtfhainobolfleaaF
namespace Go.Proofs.Ytfhainobolfleaa
open Go.RowKit
set_option linter.unusedVariables false

set_option maxHeartbeats 1600000 in
theorem refWithin_any (A1 A2 : Option Addr) (l1 c1 l2 c2 B : Nat) (C D : List Int) (w : World) (h1 : C.length = l1) (h2 : D.length = l2) (r1 : Rd w B 1 intC A1 C) (r2 : Rd w B 1 intC A2 D) (hN1 : l1 ≤ 1000000) (hN2 : l2 ≤ 1000000) :
    Calls Try.prog 18 #[.slice A1 l1 c1, .slice A2 l2 c2] w fun r w' => r = .returned (.bool (leL C D)) ∧ ∃ n, w' = w.drewN n := by
  obtain ⟨N, hN⟩ : ∃ N, N = max l1 l2 := ⟨_, rfl⟩
  have hA : ∀ (n : Nat) (i : Int) (x : Int), x = atZ C i → Calls Try.prog 13 #[.slice A1 l1 c1, .int .i64 i] (w.drewN n) fun r w' => r = .returned (.int .i64 x) ∧ w.drewN n = w' := fun n i x e => by rw [e]; exact at_13 h1 r1
  have hB : ∀ (n : Nat) (i : Int) (x : Int), x = atZ D i → Calls Try.prog 13 #[.slice A2 l2 c2, .int .i64 i] (w.drewN n) fun r w' => r = .returned (.int .i64 x) ∧ w.drewN n = w' := fun n i x e => by rw [e]; exact at_13 h2 r2
  have hyes : (∀ j : Nat, j < N → atZ C j ≤ atZ D j) → leL C D = true := by
    intro h
    unfold leL
    rw [h1, h2, ← hN]
    exact List.all_eq_true.2 fun k hk => by simpa using h k (List.mem_range.1 hk)
  have hno : ∀ j : Nat, j < N → ¬ atZ C j ≤ atZ D j → leL C D = false := by
    intro j hj h
    rw [Bool.eq_false_iff]
    intro ht
    unfold leL at ht
    rw [h1, h2, ← hN] at ht
    exact h (by simpa using List.all_eq_true.1 ht j (List.mem_range.2 hj))
  have HA := Lib.hid hA
  have HB := Lib.hid hB
  have HY := Lib.hid hyes
  have HO := Lib.hid hno
  clear hA hB hyes hno h1 h2 r1 r2
  go_enter Try.func18, Try.ntmps18
  go_wp2
  go_loopw [5] (fun i wr => ∃ k : Nat, k ≤ N ∧ i = .int .i64 k ∧ (∀ j : Nat, j < k → atZ C j ≤ atZ D j) ∧ ∃ n, wr = w.drewN n) (fun i _ => N - (intOf i).toNat)
  case atStart => exact ⟨0, by omega, rfl, by intro j hj; omega, 0, rfl⟩
  case round =>
    obtain ⟨k, hk, rfl, hall, nd, rfl⟩ := hrel
    have HALL := Lib.hid hall
    clear hall
    by_cases hlt : k < N
    · obtain ⟨x, hx⟩ : ∃ x, x = atZ C k := ⟨_, rfl⟩
      obtain ⟨y, hy⟩ : ∃ y, y = atZ D k := ⟨_, rfl⟩
      have HX := fun n => Lib.hid (HA.out n k x hx)
      have HY2 := fun n => Lib.hid (HB.out n k y hy)
      by_cases hxy : x ≤ y
      · have hd : decide (y < x) = false := by simpa using hxy
        have hle : ∀ j : Nat, j < k + 1 → atZ C j ≤ atZ D j := by
          intro j hj
          rcases Nat.lt_or_ge j k with h | h
          · exact HALL.out j h
          · obtain rfl : j = k := by omega
            rw [← hx, ← hy]; exact hxy
        have HLE := Lib.hid hle
        clear hle hx hy hxy
        by_cases hk1 : (k : Int) < (l1 : Int)
        ·
          go_wp2_with fail
          refine (HX _).out.mono ?_
          rintro r w1 ⟨rfl, rfl⟩
          go_wp2_with fail
          refine (HY2 _).out.mono ?_
          rintro r w1 ⟨rfl, rfl⟩
          go_wp2
          go_roundw
          case rel => exact ⟨k + 1, by omega, by go_num, HLE.out, _, rfl⟩
          case measure => simp [intOf] <;> omega
        · have hk2 : (k : Int) < (l2 : Int) := by omega
          go_wp2_with fail
          refine (HX _).out.mono ?_
          rintro r w1 ⟨rfl, rfl⟩
          go_wp2_with fail
          refine (HY2 _).out.mono ?_
          rintro r w1 ⟨rfl, rfl⟩
          go_wp2
          go_roundw
          case rel => exact ⟨k + 1, by omega, by go_num, HLE.out, _, rfl⟩
          case measure => simp [intOf] <;> omega
      · have hd : decide (y < x) = true := decide_eq_true (by omega)
        have HF := Lib.hid (HO.out k hlt (by rw [← hx, ← hy]; omega))
        clear hx hy hxy
        by_cases hk1 : (k : Int) < (l1 : Int)
        ·
          go_wp2_with fail
          refine (HX _).out.mono ?_
          rintro r w1 ⟨rfl, rfl⟩
          go_wp2_with fail
          refine (HY2 _).out.mono ?_
          rintro r w1 ⟨rfl, rfl⟩
          go_wp2
          go_ret
          exact ⟨by rw [HF.out]; rfl, _, rfl⟩
        · have hk2 : (k : Int) < (l2 : Int) := by omega
          go_wp2_with fail
          refine (HX _).out.mono ?_
          rintro r w1 ⟨rfl, rfl⟩
          go_wp2_with fail
          refine (HY2 _).out.mono ?_
          rintro r w1 ⟨rfl, rfl⟩
          go_wp2
          go_ret
          exact ⟨by rw [HF.out]; rfl, _, rfl⟩
    · obtain rfl : k = N := by omega
      have HT := Lib.hid (HY.out HALL.out)
      have hk1 : ¬ (k : Int) < (l1 : Int) := by omega
      have hk2 : ¬ (k : Int) < (l2 : Int) := by omega
      clear hlt hk
      go_wp2
      go_ret
      exact ⟨by rw [HT.out]; rfl, _, rfl⟩

theorem formL_up (g : Nat → Int) (N : Nat) : formL (atN (upL g N)) (upL g N).length = formL g N := by
  rw [upL_len]
  refine formL_congr N fun i hi => ?_
  unfold atN
  refine atZ_in ?_
  unfold upL
  rw [List.getElem?_map, List.getElem?_range hi]
  rfl

set_option maxHeartbeats 1600000 in
theorem refJoin_any (A1 A2 : Option Addr) (l1 c1 l2 c2 : Nat) (C D : List Int) (w : World) (h1 : C.length = l1) (h2 : D.length = l2) (r1 : Rd w w.heap.size 1 intC A1 C) (r2 : Rd w w.heap.size 1 intC A2 D) (hN1 : l1 ≤ 900000) (hN2 : l2 ≤ 900000) :
    Calls Try.prog 16 #[.slice A1 l1 c1, .slice A2 l2 c2] w (Made w (joinL C D)) := by
  obtain ⟨i0, hi0, hz0, hz1, hz2⟩ := info_parts info3
  obtain ⟨N, hN⟩ : ∃ N, N = max l1 l2 := ⟨_, rfl⟩
  have hA : ∀ (W : World), Below w.heap.size w W → ∀ (i : Int) (x : Int), x = atZ C i → Calls Try.prog 13 #[.slice A1 l1 c1, .int .i64 i] W fun r w' => r = .returned (.int .i64 x) ∧ W = w' := fun W hW i x e => by rw [e]; exact at_13 h1 (r1.below hW)
  have hB : ∀ (W : World), Below w.heap.size w W → ∀ (i : Int) (x : Int), x = atZ D i → Calls Try.prog 13 #[.slice A2 l2 c2, .int .i64 i] W fun r w' => r = .returned (.int .i64 x) ∧ W = w' := fun W hW i x e => by rw [e]; exact at_13 h2 (r2.below hW)
  have hJ : joinL C D = formL (joinG C D) N := by unfold joinL; rw [h1, h2, hN]
  rw [hJ]
  have HA := Lib.hid hA
  have HB := Lib.hid hB
  clear hA hB hJ h1 h2 r1 r2
  go_enter Try.func16, Try.ntmps16
  go_wp2
  go_loopw [5, 6] (fun v i wq => ∃ k : Nat, k ≤ N ∧ i = .int .i64 k ∧ wq.ownsRow w.heap.size 3 1 v k ((upL (joinG C D) k).flatMap intC) ∧ Below w.heap.size w wq) (fun _ i _ => N - (intOf i).toNat)
  case atStart => exact ⟨0, by omega, rfl, World.ownsRow_nil _ _ _ _, Below.refl _ _⟩
  case round =>
    obtain ⟨k, hk, rfl, hown, hBq⟩ := hrel
    by_cases hlt : k < N
    · obtain ⟨x, hx⟩ : ∃ x, x = atZ C k := ⟨_, rfl⟩
      obtain ⟨y, hy⟩ : ∃ y, y = atZ D k := ⟨_, rfl⟩
      have HX := Lib.hid (HA.out wr hBq k x hx)
      have HY2 := Lib.hid (HB.out wr hBq k y hy)
      have HOWN := Lib.hid hown
      obtain ⟨m, hm⟩ : ∃ m, m = joinG C D k := ⟨_, rfl⟩
      have HM := Lib.hid hm
      have hmx : m = max x y := by rw [hm, hx, hy]; rfl
      have HMX := Lib.hid hmx
      clear hown hx hy hm hmx
      by_cases hxy : x < y
      · obtain rfl : m = y := by rw [HMX.out]; omega
        have hd : decide (x < m) = true := by simpa using hxy
        clear hxy HMX
        by_cases hk1 : (k : Int) < (l1 : Int)
        · go_wp2_with fail
          refine HX.out.mono ?_
          rintro r w1 ⟨rfl, rfl⟩
          go_wp2_with fail
          refine HY2.out.mono ?_
          rintro r w1 ⟨rfl, rfl⟩
          go_wp2_with (at_builtin; refine wpList_append_own _ rfl _ _ 22 rfl w.heap.size 3 i0 (.int .i64 0) 1 8 Try.underlying22 hi0 hz0 hz1 hz2 rfl (by decide) _ k _ rfl (HOWN.out.alloc _) ⟨wr.heap.size, 0, none⟩ 1 1 [.int .i64 m] rfl rfl (cell_one_new _ _ _) (intC_one m) (by unfold maxLen; omega) (by omega) (by have := hBq.size; simp; omega) ?_; intro v' w2 hown2 hg2 _)
          have hB2 : Below w.heap.size w w2 := ((hBq.alloc hBq.size _).grown hg2 (by have := hBq.size; simp; omega) (fun k e => (HOWN.out.lt k e).1))
          have hown3 : w2.ownsRow w.heap.size 3 1 v' (k + 1) ((upL (joinG C D) (k + 1)).flatMap intC) := by
            rw [upL_succ, List.flatMap_append, ← HM.out]
            simpa [intC] using hown2
          clear hown2 hg2
          go_wp2
          go_roundw
          case rel => exact ⟨k + 1, by omega, by go_num, hown3, hB2⟩
          case measure => simp [intOf] <;> omega
        · have hk2 : (k : Int) < (l2 : Int) := by omega
          go_wp2_with fail
          refine HX.out.mono ?_
          rintro r w1 ⟨rfl, rfl⟩
          go_wp2_with fail
          refine HY2.out.mono ?_
          rintro r w1 ⟨rfl, rfl⟩
          go_wp2_with (at_builtin; refine wpList_append_own _ rfl _ _ 22 rfl w.heap.size 3 i0 (.int .i64 0) 1 8 Try.underlying22 hi0 hz0 hz1 hz2 rfl (by decide) _ k _ rfl (HOWN.out.alloc _) ⟨wr.heap.size, 0, none⟩ 1 1 [.int .i64 m] rfl rfl (cell_one_new _ _ _) (intC_one m) (by unfold maxLen; omega) (by omega) (by have := hBq.size; simp; omega) ?_; intro v' w2 hown2 hg2 _)
          have hB2 : Below w.heap.size w w2 := ((hBq.alloc hBq.size _).grown hg2 (by have := hBq.size; simp; omega) (fun k e => (HOWN.out.lt k e).1))
          have hown3 : w2.ownsRow w.heap.size 3 1 v' (k + 1) ((upL (joinG C D) (k + 1)).flatMap intC) := by
            rw [upL_succ, List.flatMap_append, ← HM.out]
            simpa [intC] using hown2
          clear hown2 hg2
          go_wp2
          go_roundw
          case rel => exact ⟨k + 1, by omega, by go_num, hown3, hB2⟩
          case measure => simp [intOf] <;> omega
      · obtain rfl : m = x := by rw [HMX.out]; omega
        have hd : decide (m < y) = false := by simpa using hxy
        clear hxy HMX
        by_cases hk1 : (k : Int) < (l1 : Int)
        · go_wp2_with fail
          refine HX.out.mono ?_
          rintro r w1 ⟨rfl, rfl⟩
          go_wp2_with fail
          refine HY2.out.mono ?_
          rintro r w1 ⟨rfl, rfl⟩
          go_wp2_with (at_builtin; refine wpList_append_own _ rfl _ _ 22 rfl w.heap.size 3 i0 (.int .i64 0) 1 8 Try.underlying22 hi0 hz0 hz1 hz2 rfl (by decide) _ k _ rfl (HOWN.out.alloc _) ⟨wr.heap.size, 0, none⟩ 1 1 [.int .i64 m] rfl rfl (cell_one_new _ _ _) (intC_one m) (by unfold maxLen; omega) (by omega) (by have := hBq.size; simp; omega) ?_; intro v' w2 hown2 hg2 _)
          have hB2 : Below w.heap.size w w2 := ((hBq.alloc hBq.size _).grown hg2 (by have := hBq.size; simp; omega) (fun k e => (HOWN.out.lt k e).1))
          have hown3 : w2.ownsRow w.heap.size 3 1 v' (k + 1) ((upL (joinG C D) (k + 1)).flatMap intC) := by
            rw [upL_succ, List.flatMap_append, ← HM.out]
            simpa [intC] using hown2
          clear hown2 hg2
          go_wp2
          go_roundw
          case rel => exact ⟨k + 1, by omega, by go_num, hown3, hB2⟩
          case measure => simp [intOf] <;> omega
        · have hk2 : (k : Int) < (l2 : Int) := by omega
          go_wp2_with fail
          refine HX.out.mono ?_
          rintro r w1 ⟨rfl, rfl⟩
          go_wp2_with fail
          refine HY2.out.mono ?_
          rintro r w1 ⟨rfl, rfl⟩
          go_wp2_with (at_builtin; refine wpList_append_own _ rfl _ _ 22 rfl w.heap.size 3 i0 (.int .i64 0) 1 8 Try.underlying22 hi0 hz0 hz1 hz2 rfl (by decide) _ k _ rfl (HOWN.out.alloc _) ⟨wr.heap.size, 0, none⟩ 1 1 [.int .i64 m] rfl rfl (cell_one_new _ _ _) (intC_one m) (by unfold maxLen; omega) (by omega) (by have := hBq.size; simp; omega) ?_; intro v' w2 hown2 hg2 _)
          have hB2 : Below w.heap.size w w2 := ((hBq.alloc hBq.size _).grown hg2 (by have := hBq.size; simp; omega) (fun k e => (HOWN.out.lt k e).1))
          have hown3 : w2.ownsRow w.heap.size 3 1 v' (k + 1) ((upL (joinG C D) (k + 1)).flatMap intC) := by
            rw [upL_succ, List.flatMap_append, ← HM.out]
            simpa [intC] using hown2
          clear hown2 hg2
          go_wp2
          go_roundw
          case rel => exact ⟨k + 1, by omega, by go_num, hown3, hB2⟩
          case measure => simp [intOf] <;> omega
    · obtain rfl : k = N := by omega
      have hk1 : ¬ (k : Int) < (l1 : Int) := by omega
      have hk2 : ¬ (k : Int) < (l2 : Int) := by omega
      have HF := Lib.hid (form_made hBq (by rw [upL_len]; exact hown) (by rw [upL_len]; omega))
      rw [formL_up] at HF
      clear hlt hk hown
      go_wp2_with fail
      refine HF.out.mono ?_
      rintro r w' ⟨v, rfl, hown, hb⟩
      go_wp2
      go_ret
      exact ⟨v, rfl, hown, hb⟩

theorem long_any (A1 A2 A3 : Option Addr) (l1 c1 l2 c2 l3 c3 : Nat) (w : World) :
    Calls Try.prog 22 #[.slice A1 l1 c1, .slice A2 l2 c2, .slice A3 l3 c3] w fun r w' => r = .returned (.bool (decide (2000 < l1) || decide (2000 < l2) || decide (2000 < l3))) ∧ w = w' := by
  obtain ⟨b, hb⟩ : ∃ b, b = (decide (2000 < l1) || decide (2000 < l2) || decide (2000 < l3)) := ⟨_, rfl⟩
  rw [← hb]
  by_cases h1 : 2000 < l1
  · obtain rfl : b = true := by rw [hb]; simp [h1]
    clear hb
    have h1i : (2000 : Int) < (l1 : Int) := by omega
    go_enter Try.func22, Try.ntmps22
    go_wp2
    go_ret
    exact ⟨rfl, rfl⟩
  have h1i : (l1 : Int) ≤ (2000 : Int) := by omega
  by_cases h2 : 2000 < l2
  · obtain rfl : b = true := by rw [hb]; simp [h2]
    clear hb
    have h2i : (2000 : Int) < (l2 : Int) := by omega
    go_enter Try.func22, Try.ntmps22
    go_wp2
    go_ret
    exact ⟨rfl, rfl⟩
  have h2i : (l2 : Int) ≤ (2000 : Int) := by omega
  by_cases h3 : 2000 < l3
  · obtain rfl : b = true := by rw [hb]; simp [h3]
    clear hb
    have h3i : (2000 : Int) < (l3 : Int) := by omega
    go_enter Try.func22, Try.ntmps22
    go_wp2
    go_ret
    exact ⟨rfl, rfl⟩
  have h3i : (l3 : Int) ≤ (2000 : Int) := by omega
  obtain rfl : b = false := by rw [hb]; simp [h1, h2, h3]
  clear hb
  have d1 : decide ((2000 : Int) < (l1 : Int)) = false := by simpa using h1i
  have d2 : decide ((2000 : Int) < (l2 : Int)) = false := by simpa using h2i
  have d3 : decide ((2000 : Int) < (l3 : Int)) = false := by simpa using h3i
  clear h1i h2i h3i h1 h2 h3
  go_enter Try.func22, Try.ntmps22
  go_wp2
  go_ret
  exact ⟨rfl, rfl⟩
end Go.Proofs.Ytfhainobolfleaa
