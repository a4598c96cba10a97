/- CountsMany: the walk. -/
import Derived.Test.YtbekljgcbbhnbaaB
namespace Go.Proofs.Ytbekljgcbbhnbaa
open Go.RowKit

/-- k of one number and end, none else -/
def cnt (i e : Int) (k : Nat) : Int → Int → Int := setC z0 i e k
theorem cnt_zero (i e : Int) : cnt i e 0 = z0 := by funext a b; simp [cnt, setC, z0]
theorem cnt_addR (i e : Int) (k : Nat) (h : fineB e = true) : addR (cnt i e k) i e = (k : Int) + 1 := by simp [addR, h, cnt, setC]
theorem cnt_addS (i e : Int) (k : Nat) (h : fineB e = true) : addS (cnt i e k) i e = cnt i e (k + 1) := by
  funext a b
  simp only [addS, h, if_true, cnt, setC]
  split <;> simp
theorem cnt_lessR (i e : Int) (k : Nat) : lessR (cnt i e (k + 1)) i e = (k : Int) := by
  have : ¬ ((k : Int) + 1 = 0) := by omega
  simp [lessR, cnt, setC, this]
theorem cnt_lessB (i e : Int) (k : Nat) : lessB (cnt i e (k + 1)) i e = true := by
  have : ¬ ((k : Int) + 1 = 0) := by omega
  simp [lessB, cnt, setC, this]
theorem cnt_lessS (i e : Int) (k : Nat) : lessS (cnt i e (k + 1)) i e = cnt i e k := by
  have h1 : cnt i e (k + 1) i e = (k : Int) + 1 := by simp [cnt, setC]
  have : ¬ ((k : Int) + 1 = 0) := by omega
  funext a b
  simp only [lessS, h1, this, if_false]
  simp only [cnt, setC]
  split <;> simp

set_option maxHeartbeats 800000 in
theorem manyWalk0 (a0 : Int) (m : Nat) (w : World) (i0 : (Lit.int .i64 a0).wf = true) (hmm : m ≤ 1000) :
    Calls Try.prog 6 #[.int .i64 a0, .int .i64 m, .bool false] w fun e w' => e = .returned (.bool true) ∧ Below w.heap.size w w' := by
  have hmi : (m : Int) ≤ 1000 := by omega
  have hm0 : (0 : Int) ≤ m := by omega
  have he : (Lit.int .i64 0).wf = true := by decide
  go_enter Try.func6, Try.ntmps6
  go_wp2_with fail
  refine (awake_any w).mono ?_
  rintro r wa ⟨rfl, hba⟩
  go_wp2_with fail
  refine (new_any wa).mono ?_
  rintro r w1 ⟨gc, gm, rfl, h1, hb1, hgm, hgc⟩
  go_wp2
  go_loopw [9] (fun i wr => ∃ k : Nat, k ≤ m ∧ i = .int .i64 ((k : Int) + 1) ∧ CIs wr gc gm k (cnt a0 0 k) ∧ Below wa.heap.size wa wr) (fun i _ => m + 1 - (intOf i).toNat)
  case atStart => exact ⟨0, by omega, rfl, by rw [cnt_zero]; exact h1, hb1⟩
  case round =>
    obtain ⟨k, hk, rfl, hC, hB⟩ := hrel
    clear h1 hb1
    by_cases hlt : k < m
    · go_wp2_with fail
      refine (add_all _ _ hC i0 he (by omega) (cnt_addR a0 0 k rfl) (cnt_addS a0 0 k rfl)).mono ?_
      rintro r w2 ⟨rfl, h2, hg2⟩
      have hb2 := below_step hB hg2 hgm
      go_wp2
      go_roundw
      case rel => exact ⟨k + 1, by omega, by go_num, h2, hb2⟩
      case measure => simp [intOf] <;> omega
    · obtain rfl : k = m := by omega
      go_wp2
      go_loopw [10] (fun i wr => ∃ j : Nat, j ≤ k ∧ i = .int .i64 ((j : Int) - 1) ∧ CIs wr gc gm (k + (k - j)) (cnt a0 0 j) ∧ Below wa.heap.size wa wr) (fun i _ => (intOf i + 1).toNat)
      case atStart => exact ⟨k, by omega, rfl, hC.mono (by omega), hB⟩
      case round =>
        obtain ⟨j, hj, rfl, hD, hE⟩ := hrel
        clear hC hB
        rcases Nat.eq_zero_or_pos j with h0 | h0
        · subst h0
          rw [cnt_zero] at hD
          go_wp2_with fail
          refine (less_all z0 0 false hD i0 he (by omega) rfl rfl rfl).mono ?_
          rintro r w3 ⟨rfl, h3, hg3⟩
          have hb3 := below_step hE hg3 hgm
          go_wp2_with fail
          refine (of_all 0 h3 i0 he rfl).mono ?_
          rintro r w' ⟨rfl, rfl⟩
          go_wp2_with fail
          refine (add_all (addS z0 a0 0) 1 h3 i0 he (by omega) rfl rfl).mono ?_
          rintro r w4 ⟨rfl, h4, hg4⟩
          have hb4 := below_step hb3 hg4 hgm
          go_wp2
          go_ret
          exact ⟨rfl, hba.trans (hb4.mono hba.size)⟩
        · obtain ⟨i, rfl⟩ : ∃ i, j = i + 1 := ⟨j - 1, by omega⟩
          go_wp2_with fail
          refine (less_all _ _ true hD i0 he (by omega) (cnt_lessR a0 0 i) (cnt_lessB a0 0 i) (cnt_lessS a0 0 i)).mono ?_
          rintro r w3 ⟨rfl, h3, hg3⟩
          have hb3 := below_step hE hg3 hgm
          go_wp2
          go_roundw
          case rel => exact ⟨i, by omega, by go_num, h3.mono (by omega), hb3⟩
          case measure => simp [intOf]

set_option maxHeartbeats 800000 in
theorem manyWalk1 (a0 : Int) (m : Nat) (w : World) (i0 : (Lit.int .i64 a0).wf = true) (hmm : m ≤ 1000) :
    Calls Try.prog 6 #[.int .i64 a0, .int .i64 m, .bool true] w fun e w' => e = .returned (.bool true) ∧ Below w.heap.size w w' := by
  have hmi : (m : Int) ≤ 1000 := by omega
  have hm0 : (0 : Int) ≤ m := by omega
  have he : (Lit.int .i64 1).wf = true := by decide
  go_enter Try.func6, Try.ntmps6
  go_wp2_with fail
  refine (awake_any w).mono ?_
  rintro r wa ⟨rfl, hba⟩
  go_wp2_with fail
  refine (new_any wa).mono ?_
  rintro r w1 ⟨gc, gm, rfl, h1, hb1, hgm, hgc⟩
  go_wp2
  go_loopw [9] (fun i wr => ∃ k : Nat, k ≤ m ∧ i = .int .i64 ((k : Int) + 1) ∧ CIs wr gc gm k (cnt a0 1 k) ∧ Below wa.heap.size wa wr) (fun i _ => m + 1 - (intOf i).toNat)
  case atStart => exact ⟨0, by omega, rfl, by rw [cnt_zero]; exact h1, hb1⟩
  case round =>
    obtain ⟨k, hk, rfl, hC, hB⟩ := hrel
    clear h1 hb1
    by_cases hlt : k < m
    · go_wp2_with fail
      refine (add_all _ _ hC i0 he (by omega) (cnt_addR a0 1 k rfl) (cnt_addS a0 1 k rfl)).mono ?_
      rintro r w2 ⟨rfl, h2, hg2⟩
      have hb2 := below_step hB hg2 hgm
      go_wp2
      go_roundw
      case rel => exact ⟨k + 1, by omega, by go_num, h2, hb2⟩
      case measure => simp [intOf] <;> omega
    · obtain rfl : k = m := by omega
      go_wp2
      go_loopw [10] (fun i wr => ∃ j : Nat, j ≤ k ∧ i = .int .i64 ((j : Int) - 1) ∧ CIs wr gc gm (k + (k - j)) (cnt a0 1 j) ∧ Below wa.heap.size wa wr) (fun i _ => (intOf i + 1).toNat)
      case atStart => exact ⟨k, by omega, rfl, hC.mono (by omega), hB⟩
      case round =>
        obtain ⟨j, hj, rfl, hD, hE⟩ := hrel
        clear hC hB
        rcases Nat.eq_zero_or_pos j with h0 | h0
        · subst h0
          rw [cnt_zero] at hD
          go_wp2_with fail
          refine (less_all z0 0 false hD i0 he (by omega) rfl rfl rfl).mono ?_
          rintro r w3 ⟨rfl, h3, hg3⟩
          have hb3 := below_step hE hg3 hgm
          go_wp2_with fail
          refine (of_all 0 h3 i0 he rfl).mono ?_
          rintro r w' ⟨rfl, rfl⟩
          go_wp2_with fail
          refine (add_all (addS z0 a0 1) 1 h3 i0 he (by omega) rfl rfl).mono ?_
          rintro r w4 ⟨rfl, h4, hg4⟩
          have hb4 := below_step hb3 hg4 hgm
          go_wp2
          go_ret
          exact ⟨rfl, hba.trans (hb4.mono hba.size)⟩
        · obtain ⟨i, rfl⟩ : ∃ i, j = i + 1 := ⟨j - 1, by omega⟩
          go_wp2_with fail
          refine (less_all _ _ true hD i0 he (by omega) (cnt_lessR a0 1 i) (cnt_lessB a0 1 i) (cnt_lessS a0 1 i)).mono ?_
          rintro r w3 ⟨rfl, h3, hg3⟩
          have hb3 := below_step hE hg3 hgm
          go_wp2
          go_roundw
          case rel => exact ⟨i, by omega, by go_num, h3.mono (by omega), hb3⟩
          case measure => simp [intOf]

theorem manyWalk (a0 a1 : Int) (a2 : Bool) (w : World) (i0 : (Lit.int .i64 a0).wf = true) (_i1 : (Lit.int .i64 a1).wf = true) :
    Calls Try.prog 6 #[.int .i64 a0, .int .i64 a1, .bool a2] w fun e w' => e = .returned (.bool true) ∧ Below w.heap.size w w' := by
  by_cases hn : a1 < 0
  · go_enter Try.func6, Try.ntmps6
    go_wp2_with (go_at_call 15; refine (awake_any w).mono ?_; rintro r wa ⟨rfl, hba⟩)
    go_ret
    exact ⟨rfl, hba⟩
  by_cases hm : 1000 < a1
  · go_enter Try.func6, Try.ntmps6
    go_wp2_with (go_at_call 15; refine (awake_any w).mono ?_; rintro r wa ⟨rfl, hba⟩)
    go_ret
    exact ⟨rfl, hba⟩
  obtain ⟨m, rfl⟩ : ∃ m : Nat, a1 = m := ⟨a1.toNat, by omega⟩
  cases a2
  · exact manyWalk0 a0 m w i0 (by omega)
  · exact manyWalk1 a0 m w i0 (by omega)
end Go.Proofs.Ytbekljgcbbhnbaa
