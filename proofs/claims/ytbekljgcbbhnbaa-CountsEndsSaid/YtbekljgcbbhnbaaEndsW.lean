/- CountsEnds: the walk. -/
import Derived.Test.YtbekljgcbbhnbaaB
namespace Go.Proofs.Ytbekljgcbbhnbaa
open Go.RowKit

theorem endsWalk (a0 a1 : Int) (w : World) (i0 : (Lit.int .i64 a0).wf = true) (i1 : (Lit.int .i64 a1).wf = true) :
    Calls Try.prog 7 #[.int .i64 a0, .int .i64 a1] w fun e w' => e = .returned (.bool true) ∧ Below w.heap.size w w' := by
  by_cases hf : fineB a1 = true
  · have e1 : addR z0 a0 a1 = 1 := by simp [addR, hf, z0]
    have e2 : addS z0 a0 a1 = setC z0 a0 a1 1 := by simp [addS, hf, z0]
    have e3 : lessR (setC z0 a0 a1 1) a0 a1 = 0 := by simp [lessR, setC]
    have e4 : lessB (setC z0 a0 a1 1) a0 a1 = true := by simp [lessB, setC]
    have e : a1 = 0 ∨ a1 = 1 := by simpa [fineB] using hf
    have E1 := Lib.hid e1
    have E2 := Lib.hid e2
    have E3 := Lib.hid e3
    have E4 := Lib.hid e4
    clear e1 e2 e3 e4 hf
    rcases e with rfl | rfl
    all_goals
      go_enter Try.func7, Try.ntmps7
      go_wp2_with fail
      refine (awake_any w).mono ?_
      rintro r wa ⟨rfl, hba⟩
      go_wp2_with fail
      refine (new_any wa).mono ?_
      rintro r w1 ⟨gc, gm, rfl, h1, hb1, hgm, hgc⟩
      go_wp2_with fail
      refine (add_all _ 1 h1 i0 (by decide) (by omega) E1.out E2.out).mono ?_
      rintro r w2 ⟨rfl, h2, hg2⟩
      have hb2 := below_step hb1 hg2 hgm
      go_wp2_with fail
      refine (less_all _ 0 true h2 i0 (by decide) (by omega) E3.out E4.out rfl).mono ?_
      rintro r w3 ⟨rfl, h3, hg3⟩
      have hb3 := below_step hb2 hg3 hgm
      go_wp2
      go_ret
      exact ⟨rfl, hba.trans (hb3.mono hba.size)⟩
  · have hff : fineB a1 = false := by simpa using hf
    have e1 : addR z0 a0 a1 = 0 := by simp [addR, hff]
    have e2 : addS z0 a0 a1 = z0 := by simp [addS, hff]
    have b0 : (a1 == 0) = false := by simp [fineB] at hff; simpa using hff.1
    have b1 : (a1 == 1) = false := by simp [fineB] at hff; simpa using hff.2
    have E1 := Lib.hid e1
    have E2 := Lib.hid e2
    clear e1 e2 hf hff
    go_enter Try.func7, Try.ntmps7
    go_wp2_with fail
    refine (awake_any w).mono ?_
    rintro r wa ⟨rfl, hba⟩
    go_wp2_with fail
    refine (new_any wa).mono ?_
    rintro r w1 ⟨gc, gm, rfl, h1, hb1, hgm, hgc⟩
    go_wp2_with fail
    refine (add_all z0 0 h1 i0 i1 (by omega) E1.out E2.out).mono ?_
    rintro r w2 ⟨rfl, h2, hg2⟩
    have hb2 := below_step hb1 hg2 hgm
    go_wp2_with fail
    refine (less_all z0 0 false h2 i0 i1 (by omega) rfl rfl rfl).mono ?_
    rintro r w3 ⟨rfl, h3, hg3⟩
    have hb3 := below_step hb2 hg3 hgm
    go_wp2_with fail
    refine (of_all 0 h3 i0 i1 rfl).mono ?_
    rintro r w' ⟨rfl, rfl⟩
    go_wp2
    go_ret
    exact ⟨rfl, hba.trans (hb3.mono hba.size)⟩
end Go.Proofs.Ytbekljgcbbhnbaa
