/- Counts: the chapter's examples ('awake') come out as the chapter says. -/
import Derived.Test.YtbekljgcbbhnbaaA
namespace Go.Proofs.Ytbekljgcbbhnbaa
open Go.RowKit

def z0 : Int → Int → Int := fun _ _ => 0

set_option maxRecDepth 100000 in
set_option maxHeartbeats 400000 in
theorem awake_any (w : World) : Calls Try.prog 15 #[] w fun r w' => r = .returned (.bool true) ∧ Below w.heap.size w w' := by
  go_enter Try.func15, Try.ntmps15
  go_wp2_with fail
  refine (new_any w).mono ?_
  rintro r w1 ⟨gc, gm, rfl, h1, hb1, hgm, hgc⟩
  go_wp2_with fail
  refine (add_all (addS (z0) 5 0) 1 h1 (by decide) (by decide) (by omega) rfl rfl).mono ?_
  rintro r w2 ⟨rfl, h2, hg2⟩
  have hb2 := below_step hb1 hg2 hgm
  go_wp2_with fail
  refine (add_all (addS (addS (z0) 5 0) 5 0) 2 h2 (by decide) (by decide) (by omega) rfl rfl).mono ?_
  rintro r w3 ⟨rfl, h3, hg3⟩
  have hb3 := below_step hb2 hg3 hgm
  go_wp2_with fail
  refine (add_all (addS (addS (addS (z0) 5 0) 5 0) 5 1) 1 h3 (by decide) (by decide) (by omega) rfl rfl).mono ?_
  rintro r w4 ⟨rfl, h4, hg4⟩
  have hb4 := below_step hb3 hg4 hgm
  go_wp2_with fail
  refine (of_all 2 h4 (by decide) (by decide) rfl).mono ?_
  rintro r w' ⟨rfl, rfl⟩
  go_wp2_with fail
  refine (of_all 0 h4 (by decide) (by decide) rfl).mono ?_
  rintro r w' ⟨rfl, rfl⟩
  go_wp2_with fail
  refine (less_all (lessS (addS (addS (addS (z0) 5 0) 5 0) 5 1) 5 0) 1 true h4 (by decide) (by decide) (by omega) rfl rfl rfl).mono ?_
  rintro r w5 ⟨rfl, h5, hg5⟩
  have hb5 := below_step hb4 hg5 hgm
  go_wp2_with fail
  refine (less_all (lessS (lessS (addS (addS (addS (z0) 5 0) 5 0) 5 1) 5 0) 5 0) 0 true h5 (by decide) (by decide) (by omega) rfl rfl rfl).mono ?_
  rintro r w6 ⟨rfl, h6, hg6⟩
  have hb6 := below_step hb5 hg6 hgm
  go_wp2_with fail
  refine (less_all (lessS (lessS (lessS (addS (addS (addS (z0) 5 0) 5 0) 5 1) 5 0) 5 0) 5 0) 0 false h6 (by decide) (by decide) (by omega) rfl rfl rfl).mono ?_
  rintro r w7 ⟨rfl, h7, hg7⟩
  have hb7 := below_step hb6 hg7 hgm
  go_wp2_with fail
  refine (less_all (lessS (lessS (lessS (lessS (addS (addS (addS (z0) 5 0) 5 0) 5 1) 5 0) 5 0) 5 0) 5 1) 0 true h7 (by decide) (by decide) (by omega) rfl rfl rfl).mono ?_
  rintro r w8 ⟨rfl, h8, hg8⟩
  have hb8 := below_step hb7 hg8 hgm
  go_wp2_with fail
  refine (add_all (addS (lessS (lessS (lessS (lessS (addS (addS (addS (z0) 5 0) 5 0) 5 1) 5 0) 5 0) 5 0) 5 1) 5 2) 0 h8 (by decide) (by decide) (by omega) rfl rfl).mono ?_
  rintro r w9 ⟨rfl, h9, hg9⟩
  have hb9 := below_step hb8 hg9 hgm
  go_wp2
  go_ret
  exact ⟨rfl, hb9⟩
end Go.Proofs.Ytbekljgcbbhnbaa
