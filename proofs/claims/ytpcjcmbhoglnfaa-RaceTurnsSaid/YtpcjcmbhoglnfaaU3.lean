/- Race: the contract of a trace's does: joins. -/
import Derived.Test.YtpcjcmbhoglnfaaU0
namespace Go.Proofs.Ytpcjcmbhoglnfaa
open Go.RowKit
set_option linter.unusedVariables false
set_option linter.unusedSimpArgs false

set_option maxRecDepth 100000 in
set_option maxHeartbeats 12800000 in
theorem does_8 {w : World} {B gs g c n t : Nat} {E : List Bool} {pa : Option Addr} {pc pl : Nat} {P : List Int} (id : Int) (H : DC w B gs g c n t E pa pc pl P) :
    Calls Try.prog 49 #[.pointer (some ⟨gs, 0, none⟩), .agg #[.int .u8 8, .int .i64 t, .int .i64 id, .slice pa pl pc]] w (DoesP w B gs E ⟨8, (t : Int), id, pa, pc, P⟩) := by
  have HH := Lib.hid H
  have HPL := Lib.hid H.hpl
  have HN := Lib.hid H.hn
  have HGO := Lib.hid H.go
  have h0 := H.cell0
  have hct := H.cellE H.he
  have hti : (t : Int) < (n : Int) := by have := H.htn; omega
  have ht0 : (0 : Int) ≤ (t : Int) := by omega
  have hgl := H.ts.lt
  have htn := H.htn
  have hglt : g < w.heap.size := World.block_lt_of_cell? w ⟨g, t, none⟩ hct
  have hfz := H.blk.frozen 0
  have d0 : decide ((t : Int) < 0) = false := by simp
  have d1 : decide ((n : Int) ≤ (t : Int)) = false := by simp; omega
  clear H
  by_cases i0 : 0 ≤ id
  · have di0 : decide (0 ≤ id) = true := decide_eq_true i0
    by_cases i1 : id < n
    · obtain ⟨j, rfl⟩ : ∃ j : Nat, id = j := ⟨id.toNat, by omega⟩
      have hji : (j : Int) < (n : Int) := i1
      have hj0 : (0 : Int) ≤ (j : Int) := i0
      obtain ⟨b1, hb1⟩ : ∃ b, E[j]? = some b := ⟨_, List.getElem?_eq_getElem (by rw [← HN.out]; omega)⟩
      have hcj := HH.out.cellE hb1
      cases b1
      · have hf : doesF E ⟨8, (t : Int), (j : Int), pa, pc, P⟩ = (false, E) := by unfold doesF; rw [if_neg HGO.out]; simp [hb1]
        have HF := Lib.hid hf
        clear hf hb1 i0 i1 di0
        go_enter Try.func49, Try.ntmps49
        go_wp2
        go_quiet (fail)
        go_wp2
        go_quiet (fail)
        go_wp2
        go_ret
        exact DoesP.same HH.out.ts (by first | exact HH.out.bel _ _ | exact below_drewN (HH.out.bel _ _) _) HF.out
      · by_cases p0 : pl = 0
        · subst p0
          have hf : doesF E ⟨8, (t : Int), (j : Int), pa, pc, P⟩ = (true, E) := by unfold doesF; rw [if_neg HGO.out]; simp [hb1, HPL.out, ← HN.out]; omega
          have HF := Lib.hid hf
          clear hf hb1 i0 i1 di0
          go_enter Try.func49, Try.ntmps49
          go_wp2
          go_quiet (fail)
          go_wp2
          go_quiet (fail)
          go_wp2
          go_ret
          exact DoesP.same HH.out.ts (by first | exact HH.out.bel _ _ | exact below_drewN (HH.out.bel _ _) _) HF.out
        · have dp : ((pl : Int) == 0) = false := by simpa using p0
          have hf : doesF E ⟨8, (t : Int), (j : Int), pa, pc, P⟩ = (false, E) := by unfold doesF; rw [if_neg HGO.out]; simp [HPL.out, p0]
          have HF := Lib.hid hf
          clear hf hb1 i0 i1 p0 di0
          go_enter Try.func49, Try.ntmps49
          go_wp2
          go_quiet (fail)
          go_wp2
          go_quiet (fail)
          go_wp2
          go_ret
          exact DoesP.same HH.out.ts (by first | exact HH.out.bel _ _ | exact below_drewN (HH.out.bel _ _) _) HF.out
    · have di1 : decide (id < (n : Int)) = false := decide_eq_false i1
      have hf : doesF E ⟨8, (t : Int), id, pa, pc, P⟩ = (false, E) := by unfold doesF; rw [if_neg HGO.out]; simp [← HN.out, i1]
      have HF := Lib.hid hf
      clear hf i0 i1
      go_enter Try.func49, Try.ntmps49
      go_wp2
      go_quiet (fail)
      go_wp2
      go_quiet (fail)
      go_wp2
      go_ret
      exact DoesP.same HH.out.ts (by first | exact HH.out.bel _ _ | exact below_drewN (HH.out.bel _ _) _) HF.out
  · have di0 : decide (0 ≤ id) = false := decide_eq_false i0
    have hf : doesF E ⟨8, (t : Int), id, pa, pc, P⟩ = (false, E) := by unfold doesF; rw [if_neg HGO.out]; simp [i0]
    have HF := Lib.hid hf
    clear hf i0
    go_enter Try.func49, Try.ntmps49
    go_wp2
    go_quiet (fail)
    go_wp2
    go_quiet (fail)
    go_wp2
    go_ret
    exact DoesP.same HH.out.ts (by first | exact HH.out.bel _ _ | exact below_drewN (HH.out.bel _ _) _) HF.out

set_option maxRecDepth 100000 in
set_option maxHeartbeats 12800000 in
theorem does_else {w : World} {B gs g c n t : Nat} {E : List Bool} {pa : Option Addr} {pc pl : Nat} {P : List Int} (kd id : Int) (k1 : kd ≠ 1) (k2 : kd ≠ 2) (k3 : kd ≠ 3) (k4 : kd ≠ 4) (k5 : kd ≠ 5) (k6 : kd ≠ 6) (k7 : kd ≠ 7) (k8 : kd ≠ 8) (k9 : kd ≠ 9) (H : DC w B gs g c n t E pa pc pl P) :
    Calls Try.prog 49 #[.pointer (some ⟨gs, 0, none⟩), .agg #[.int .u8 kd, .int .i64 t, .int .i64 id, .slice pa pl pc]] w (DoesP w B gs E ⟨kd, (t : Int), id, pa, pc, P⟩) := by
  have HH := Lib.hid H
  have HPL := Lib.hid H.hpl
  have HN := Lib.hid H.hn
  have HGO := Lib.hid H.go
  have h0 := H.cell0
  have hct := H.cellE H.he
  have hti : (t : Int) < (n : Int) := by have := H.htn; omega
  have ht0 : (0 : Int) ≤ (t : Int) := by omega
  have hgl := H.ts.lt
  have htn := H.htn
  have hglt : g < w.heap.size := World.block_lt_of_cell? w ⟨g, t, none⟩ hct
  have hfz := H.blk.frozen 0
  have d0 : decide ((t : Int) < 0) = false := by simp
  have d1 : decide ((n : Int) ≤ (t : Int)) = false := by simp; omega
  clear H
  have hf : doesF E ⟨kd, (t : Int), id, pa, pc, P⟩ = (false, E) := by unfold doesF; rw [if_neg HGO.out]; simp [k1, k2, k3, k4, k5, k6, k7, k8, k9]
  have b1 : (kd == 1) = false := by simpa using k1
  have b2 : (kd == 2) = false := by simpa using k2
  have b3 : (kd == 3) = false := by simpa using k3
  have b4 : (kd == 4) = false := by simpa using k4
  have b5 : (kd == 5) = false := by simpa using k5
  have b6 : (kd == 6) = false := by simpa using k6
  have b7 : (kd == 7) = false := by simpa using k7
  have b8 : (kd == 8) = false := by simpa using k8
  have b9 : (kd == 9) = false := by simpa using k9
  have HF := Lib.hid hf
  clear hf k1 k2 k3 k4 k5 k6 k7 k8 k9
  go_enter Try.func49, Try.ntmps49
  go_wp2
  go_quiet (fail)
  go_wp2
  go_ret
  exact DoesP.same HH.out.ts (HH.out.bel _ _) HF.out
end Go.Proofs.Ytpcjcmbhoglnfaa
