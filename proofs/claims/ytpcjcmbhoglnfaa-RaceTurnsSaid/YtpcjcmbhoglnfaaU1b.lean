/- Race: the contract of a trace's does: frees, acquires, releases. -/
import Derived.Test.YtpcjcmbhoglnfaaU0
namespace Go.Proofs.Ytpcjcmbhoglnfaa
open Go.RowKit
set_option linter.unusedVariables false
set_option linter.unusedSimpArgs false

set_option maxRecDepth 100000 in
set_option maxHeartbeats 12800000 in
theorem does_3 {w : World} {B gs g c n t : Nat} {E : List Bool} {pa : Option Addr} {pc pl : Nat} {P : List Int} (id : Int) (H : DC w B gs g c n t E pa pc pl P) :
    Calls Try.prog 49 #[.pointer (some ⟨gs, 0, none⟩), .agg #[.int .u8 3, .int .i64 t, .int .i64 id, .slice pa pl pc]] w (DoesP w B gs E ⟨3, (t : Int), id, pa, pc, P⟩) := by
  have HH := Lib.hid H
  have HPL := Lib.hid H.hpl
  have HN := Lib.hid H.hn
  have HGO := Lib.hid H.go
  have h0 := H.cell0
  have hct := H.cellE H.he
  have hti : (t : Int) < (n : Int) := by have := H.htn; omega
  have ht0 : (0 : Int) ≤ (t : Int) := by omega
  have hgl := H.ts.lt
  have htn := H.htn
  have hglt : g < w.heap.size := World.block_lt_of_cell? w ⟨g, t, none⟩ hct
  have hfz := H.blk.frozen 0
  have d0 : decide ((t : Int) < 0) = false := by simp
  have d1 : decide ((n : Int) ≤ (t : Int)) = false := by simp; omega
  clear H
  have hf : doesF E ⟨3, (t : Int), id, pa, pc, P⟩ = (decide (0 ≤ id) && decide (pl = 0), E) := by unfold doesF; rw [if_neg HGO.out]; simp [HPL.out]
  by_cases i0 : 0 ≤ id
  · have di : decide (0 ≤ id) = true := decide_eq_true i0
    rw [di, Bool.true_and] at hf
    clear i0
    by_cases p0 : pl = 0
    · subst p0
      have HF := Lib.hid hf
      clear hf
      go_enter Try.func49, Try.ntmps49
      go_wp2
      go_quiet (fail)
      go_wp2
      go_ret
      exact DoesP.same HH.out.ts (HH.out.bel _ _) HF.out
    · rw [decide_eq_false p0] at hf
      have dp : ((pl : Int) == 0) = false := by simpa using p0
      have HF := Lib.hid hf
      clear p0 hf
      go_enter Try.func49, Try.ntmps49
      go_wp2
      go_quiet (fail)
      go_wp2
      go_ret
      exact DoesP.same HH.out.ts (HH.out.bel _ _) HF.out
  · have di : decide (0 ≤ id) = false := decide_eq_false i0
    rw [di, Bool.false_and] at hf
    have HF := Lib.hid hf
    clear i0 hf
    go_enter Try.func49, Try.ntmps49
    go_wp2
    go_quiet (fail)
    go_wp2
    go_ret
    exact DoesP.same HH.out.ts (HH.out.bel _ _) HF.out

set_option maxRecDepth 100000 in
set_option maxHeartbeats 12800000 in
theorem does_5 {w : World} {B gs g c n t : Nat} {E : List Bool} {pa : Option Addr} {pc pl : Nat} {P : List Int} (id : Int) (H : DC w B gs g c n t E pa pc pl P) :
    Calls Try.prog 49 #[.pointer (some ⟨gs, 0, none⟩), .agg #[.int .u8 5, .int .i64 t, .int .i64 id, .slice pa pl pc]] w (DoesP w B gs E ⟨5, (t : Int), id, pa, pc, P⟩) := by
  have HH := Lib.hid H
  have HPL := Lib.hid H.hpl
  have HN := Lib.hid H.hn
  have HGO := Lib.hid H.go
  have h0 := H.cell0
  have hct := H.cellE H.he
  have hti : (t : Int) < (n : Int) := by have := H.htn; omega
  have ht0 : (0 : Int) ≤ (t : Int) := by omega
  have hgl := H.ts.lt
  have htn := H.htn
  have hglt : g < w.heap.size := World.block_lt_of_cell? w ⟨g, t, none⟩ hct
  have hfz := H.blk.frozen 0
  have d0 : decide ((t : Int) < 0) = false := by simp
  have d1 : decide ((n : Int) ≤ (t : Int)) = false := by simp; omega
  clear H
  have hf : doesF E ⟨5, (t : Int), id, pa, pc, P⟩ = (decide (0 ≤ id) && decide (pl = 0), E) := by unfold doesF; rw [if_neg HGO.out]; simp [HPL.out]
  by_cases i0 : 0 ≤ id
  · have di : decide (0 ≤ id) = true := decide_eq_true i0
    rw [di, Bool.true_and] at hf
    clear i0
    by_cases p0 : pl = 0
    · subst p0
      have HF := Lib.hid hf
      clear hf
      go_enter Try.func49, Try.ntmps49
      go_wp2
      go_quiet (fail)
      go_wp2
      go_ret
      exact DoesP.same HH.out.ts (HH.out.bel _ _) HF.out
    · rw [decide_eq_false p0] at hf
      have dp : ((pl : Int) == 0) = false := by simpa using p0
      have HF := Lib.hid hf
      clear p0 hf
      go_enter Try.func49, Try.ntmps49
      go_wp2
      go_quiet (fail)
      go_wp2
      go_ret
      exact DoesP.same HH.out.ts (HH.out.bel _ _) HF.out
  · have di : decide (0 ≤ id) = false := decide_eq_false i0
    rw [di, Bool.false_and] at hf
    have HF := Lib.hid hf
    clear i0 hf
    go_enter Try.func49, Try.ntmps49
    go_wp2
    go_quiet (fail)
    go_wp2
    go_ret
    exact DoesP.same HH.out.ts (HH.out.bel _ _) HF.out

set_option maxRecDepth 100000 in
set_option maxHeartbeats 12800000 in
theorem does_6 {w : World} {B gs g c n t : Nat} {E : List Bool} {pa : Option Addr} {pc pl : Nat} {P : List Int} (id : Int) (H : DC w B gs g c n t E pa pc pl P) :
    Calls Try.prog 49 #[.pointer (some ⟨gs, 0, none⟩), .agg #[.int .u8 6, .int .i64 t, .int .i64 id, .slice pa pl pc]] w (DoesP w B gs E ⟨6, (t : Int), id, pa, pc, P⟩) := by
  have HH := Lib.hid H
  have HPL := Lib.hid H.hpl
  have HN := Lib.hid H.hn
  have HGO := Lib.hid H.go
  have h0 := H.cell0
  have hct := H.cellE H.he
  have hti : (t : Int) < (n : Int) := by have := H.htn; omega
  have ht0 : (0 : Int) ≤ (t : Int) := by omega
  have hgl := H.ts.lt
  have htn := H.htn
  have hglt : g < w.heap.size := World.block_lt_of_cell? w ⟨g, t, none⟩ hct
  have hfz := H.blk.frozen 0
  have d0 : decide ((t : Int) < 0) = false := by simp
  have d1 : decide ((n : Int) ≤ (t : Int)) = false := by simp; omega
  clear H
  have hf : doesF E ⟨6, (t : Int), id, pa, pc, P⟩ = (decide (0 ≤ id) && decide (pl = 0), E) := by unfold doesF; rw [if_neg HGO.out]; simp [HPL.out]
  by_cases i0 : 0 ≤ id
  · have di : decide (0 ≤ id) = true := decide_eq_true i0
    rw [di, Bool.true_and] at hf
    clear i0
    by_cases p0 : pl = 0
    · subst p0
      have HF := Lib.hid hf
      clear hf
      go_enter Try.func49, Try.ntmps49
      go_wp2
      go_quiet (fail)
      go_wp2
      go_ret
      exact DoesP.same HH.out.ts (HH.out.bel _ _) HF.out
    · rw [decide_eq_false p0] at hf
      have dp : ((pl : Int) == 0) = false := by simpa using p0
      have HF := Lib.hid hf
      clear p0 hf
      go_enter Try.func49, Try.ntmps49
      go_wp2
      go_quiet (fail)
      go_wp2
      go_ret
      exact DoesP.same HH.out.ts (HH.out.bel _ _) HF.out
  · have di : decide (0 ≤ id) = false := decide_eq_false i0
    rw [di, Bool.false_and] at hf
    have HF := Lib.hid hf
    clear i0 hf
    go_enter Try.func49, Try.ntmps49
    go_wp2
    go_quiet (fail)
    go_wp2
    go_ret
    exact DoesP.same HH.out.ts (HH.out.bel _ _) HF.out
end Go.Proofs.Ytpcjcmbhoglnfaa
