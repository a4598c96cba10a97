/- Race: the contract of a trace's does: spawns, ends. -/
import Derived.Test.YtpcjcmbhoglnfaaU0
namespace Go.Proofs.Ytpcjcmbhoglnfaa
open Go.RowKit
set_option linter.unusedVariables false
set_option linter.unusedSimpArgs false

set_option maxRecDepth 100000 in
set_option maxHeartbeats 12800000 in
theorem does_7 {w : World} {B gs g c n t : Nat} {E : List Bool} {pa : Option Addr} {pc pl : Nat} {P : List Int} (id : Int) (H : DC w B gs g c n t E pa pc pl P) :
    Calls Try.prog 49 #[.pointer (some ⟨gs, 0, none⟩), .agg #[.int .u8 7, .int .i64 t, .int .i64 id, .slice pa pl pc]] w (DoesP w B gs E ⟨7, (t : Int), id, pa, pc, P⟩) := by
  have HH := Lib.hid H
  have HPL := Lib.hid H.hpl
  have HN := Lib.hid H.hn
  have HGO := Lib.hid H.go
  have h0 := H.cell0
  have hct := H.cellE H.he
  have hti : (t : Int) < (n : Int) := by have := H.htn; omega
  have ht0 : (0 : Int) ≤ (t : Int) := by omega
  have hgl := H.ts.lt
  have htn := H.htn
  have hglt : g < w.heap.size := World.block_lt_of_cell? w ⟨g, t, none⟩ hct
  have hfz := H.blk.frozen 0
  have d0 : decide ((t : Int) < 0) = false := by simp
  have d1 : decide ((n : Int) ≤ (t : Int)) = false := by simp; omega
  clear H
  by_cases i0 : id = n
  · have di0 : (id == (n : Int)) = true := by simpa using i0
    by_cases i1 : id < 65536
    · have di1 : decide (id < 65536) = true := decide_eq_true i1
      by_cases p0 : pl = 0
      · subst p0
        have hf : doesF E ⟨7, (t : Int), id, pa, pc, P⟩ = (true, E ++ [false]) := by unfold doesF; rw [if_neg HGO.out]; simp [HPL.out, ← HN.out, i0]; omega
        have HF := Lib.hid hf
        clear hf i1 i0
        go_enter Try.func49, Try.ntmps49
        go_wp2
        go_quiet (fail)
        go_wp2
        go_quiet (fail)
        obtain ⟨j0, hj0, hz0, hz1, hz2⟩ := info_parts info4
        have hownA := fun (o : Obj) (k : Nat) (o' : Obj) => (ownN (HH.out.own.alloc o) k).alloc o'
        go_wp2_with (at_builtin; (refine wpList_append_own _ rfl _ _ 51 rfl B 4 j0 (.bool false) 1 1 Try.underlying51 hj0 hz0 hz1 hz2 rfl (by decide) _ n (E.map Value.bool) rfl (hownA _ _ _) ⟨w.heap.size + 1, 0, none⟩ 1 1 [.bool false] rfl rfl (cell_new2 _ _ _ _ _) ?c2 ?c3 ?c4 ?c5 ?_))
        case c2 => intro u hu; simp at hu; subst hu; rfl
        case c3 => have := HH.out.hE; unfold maxLen; omega
        case c4 => have := HH.out.hE; omega
        case c5 => have := HH.out.ts.lt; have := HH.out.hB; simp; omega
        intro v' w2 hown' hg _
        have hb2 : Blk w2 gs 71 #[.slice (some ⟨g, 0, none⟩) n c] := (((HH.out.blk.alloc _).drewN _).alloc _).grown hg (fun e => (own_blk_ne HH.out.own HH.out.blk (by decide)) e.symm)
        have hB2 : Below B w w2 := ((((Below.refl B w).alloc (by have := HH.out.ts.lt; have := HH.out.hB; omega) _).trans (below_drewN (Below.refl B _) _)).alloc (by have := HH.out.ts.lt; have := HH.out.hB; simp; omega) _).grown hg (by have := HH.out.ts.lt; have := HH.out.hB; simp; omega) (fun k e => (HH.out.own.lt k e).1)
        obtain ⟨g', cap', rfl⟩ := own_succ hown'
        have q0 := hb2.cell 0
        rw [show ∀ v : Value, (#[v] : Array Value)[0]? = some v from fun _ => rfl] at q0
        have q1 := hb2.frozen 0
        have hl1 : n + 1 = (E ++ [false]).length := by simp [HN.out]
        have hfl : E.map Value.bool ++ [Value.bool false] = (E ++ [false]).map Value.bool := by simp
        have hfin := TS.set (E := E) (E' := E ++ [false]) HH.out.hB hb2 (by rw [hl1, hfl] at hown'; exact hown')
        rw [← hl1] at hfin
        have hkt : KeepT w (w2.setCell ⟨gs, 0, none⟩ (.slice (some ⟨g', 0, none⟩) (n + 1) cap')) := ((KeepT.of_below ((HH.out.bel _ _).alloc (by simp) _)).trans (KeepT.of_row (hownA _ _ _) hg)).trans (KeepT.of_set hb2 _)
        have HKT := Lib.hid hkt
        clear hkt
        have HFN := Lib.hid (And.intro hfin (hB2.setCell (p := ⟨gs, 0, none⟩) HH.out.hB (.slice (some ⟨g', 0, none⟩) (n + 1) cap')))
        clear hfin hB2 hl1 hfl hown' hg hb2
        go_wp2
        go_ret
        unfold DoesP
        rw [HF.out]
        exact ⟨rfl, HFN.out.1, HFN.out.2, HKT.out⟩
      · have dp : ((pl : Int) == 0) = false := by simpa using p0
        have hf : doesF E ⟨7, (t : Int), id, pa, pc, P⟩ = (false, E) := by unfold doesF; rw [if_neg HGO.out]; simp [HPL.out, ← HN.out, p0]
        have HF := Lib.hid hf
        clear hf p0 i1 i0
        go_enter Try.func49, Try.ntmps49
        go_wp2
        go_quiet (fail)
        go_wp2
        go_quiet (fail)
        go_wp2
        go_ret
        exact DoesP.same HH.out.ts (by first | exact HH.out.bel _ _ | exact below_drewN (HH.out.bel _ _) _) HF.out
    · have di1 : decide (id < 65536) = false := decide_eq_false i1
      have hf : doesF E ⟨7, (t : Int), id, pa, pc, P⟩ = (false, E) := by unfold doesF; rw [if_neg HGO.out]; simp [HPL.out, ← HN.out]; omega
      have HF := Lib.hid hf
      clear hf i1 i0
      go_enter Try.func49, Try.ntmps49
      go_wp2
      go_quiet (fail)
      go_wp2
      go_quiet (fail)
      go_wp2
      go_ret
      exact DoesP.same HH.out.ts (by first | exact HH.out.bel _ _ | exact below_drewN (HH.out.bel _ _) _) HF.out
  · have di : (id == (n : Int)) = false := by simpa using i0
    have hf : doesF E ⟨7, (t : Int), id, pa, pc, P⟩ = (false, E) := by unfold doesF; rw [if_neg HGO.out]; simp [← HN.out, i0]
    have HF := Lib.hid hf
    clear hf i0
    go_enter Try.func49, Try.ntmps49
    go_wp2
    go_quiet (fail)
    go_wp2
    go_quiet (fail)
    go_wp2
    go_ret
    exact DoesP.same HH.out.ts (by first | exact HH.out.bel _ _ | exact below_drewN (HH.out.bel _ _) _) HF.out

set_option maxRecDepth 100000 in
set_option maxHeartbeats 12800000 in
theorem does_9 {w : World} {B gs g c n t : Nat} {E : List Bool} {pa : Option Addr} {pc pl : Nat} {P : List Int} (id : Int) (H : DC w B gs g c n t E pa pc pl P) :
    Calls Try.prog 49 #[.pointer (some ⟨gs, 0, none⟩), .agg #[.int .u8 9, .int .i64 t, .int .i64 id, .slice pa pl pc]] w (DoesP w B gs E ⟨9, (t : Int), id, pa, pc, P⟩) := by
  have HH := Lib.hid H
  have HPL := Lib.hid H.hpl
  have HN := Lib.hid H.hn
  have HGO := Lib.hid H.go
  have h0 := H.cell0
  have hct := H.cellE H.he
  have hti : (t : Int) < (n : Int) := by have := H.htn; omega
  have ht0 : (0 : Int) ≤ (t : Int) := by omega
  have hgl := H.ts.lt
  have htn := H.htn
  have hglt : g < w.heap.size := World.block_lt_of_cell? w ⟨g, t, none⟩ hct
  have hfz := H.blk.frozen 0
  have d0 : decide ((t : Int) < 0) = false := by simp
  have d1 : decide ((n : Int) ≤ (t : Int)) = false := by simp; omega
  clear H
  by_cases i0 : id = 0
  · subst i0
    by_cases p0 : pl = 0
    · subst p0
      have hf : doesF E ⟨9, (t : Int), 0, pa, pc, P⟩ = (true, E.set t true) := by unfold doesF; rw [if_neg HGO.out]; simp [HPL.out]
      have HF := Lib.hid hf
      have hfr := HH.out.own.frozenAt t
      clear hf
      go_enter Try.func49, Try.ntmps49
      go_wp2
      go_quiet (fail)
      go_wp2
      go_region
      go_wp2
      go_ret
      unfold DoesP
      rw [HF.out]
      have hst := TS.store HH.out.hB ((HH.out.blk.alloc (.cells #[.int .u8 9, .int .i64 t, .int .i64 0, .slice pa 0 pc] 26)).drewN (nq + 1)) HH.out.hn (ownN (HH.out.own.alloc _) _) t true
      exact ⟨rfl, hst.1, (((Below.refl B w).alloc (by have := HH.out.ts.lt; have := HH.out.hB; omega) _).trans (below_drewN (Below.refl B _) _)).trans hst.2, (KeepT.of_below (HH.out.bel _ _)).trans (KeepT.of_row (ownN (HH.out.own.alloc _) _) (grown_at _ _ _ _))⟩
    · have dp : ((pl : Int) == 0) = false := by simpa using p0
      have hf : doesF E ⟨9, (t : Int), 0, pa, pc, P⟩ = (false, E.set t false) := by unfold doesF; rw [if_neg HGO.out]; simp [HPL.out, p0]
      clear p0
      have HF := Lib.hid hf
      have hfr := HH.out.own.frozenAt t
      clear hf
      go_enter Try.func49, Try.ntmps49
      go_wp2
      go_quiet (fail)
      go_wp2
      go_region
      go_wp2
      go_ret
      unfold DoesP
      rw [HF.out]
      have hst := TS.store HH.out.hB ((HH.out.blk.alloc (.cells #[.int .u8 9, .int .i64 t, .int .i64 0, .slice pa pl pc] 26)).drewN (nq + 1)) HH.out.hn (ownN (HH.out.own.alloc _) _) t false
      exact ⟨rfl, hst.1, (((Below.refl B w).alloc (by have := HH.out.ts.lt; have := HH.out.hB; omega) _).trans (below_drewN (Below.refl B _) _)).trans hst.2, (KeepT.of_below (HH.out.bel _ _)).trans (KeepT.of_row (ownN (HH.out.own.alloc _) _) (grown_at _ _ _ _))⟩
  · have di : (id == 0) = false := by simpa using i0
    have hf : doesF E ⟨9, (t : Int), id, pa, pc, P⟩ = (false, E.set t false) := by unfold doesF; rw [if_neg HGO.out]; simp [i0]
    clear i0
    have HF := Lib.hid hf
    have hfr := HH.out.own.frozenAt t
    clear hf
    go_enter Try.func49, Try.ntmps49
    go_wp2
    go_quiet (fail)
    go_wp2
    go_region
    go_wp2
    go_ret
    unfold DoesP
    rw [HF.out]
    have hst := TS.store HH.out.hB ((HH.out.blk.alloc (.cells #[.int .u8 9, .int .i64 t, .int .i64 id, .slice pa pl pc] 26)).drewN (nq + 1)) HH.out.hn (ownN (HH.out.own.alloc _) _) t false
    exact ⟨rfl, hst.1, (((Below.refl B w).alloc (by have := HH.out.ts.lt; have := HH.out.hB; omega) _).trans (below_drewN (Below.refl B _) _)).trans hst.2, (KeepT.of_below (HH.out.bel _ _)).trans (KeepT.of_row (ownN (HH.out.own.alloc _) _) (grown_at _ _ _ _))⟩
end Go.Proofs.Ytpcjcmbhoglnfaa
