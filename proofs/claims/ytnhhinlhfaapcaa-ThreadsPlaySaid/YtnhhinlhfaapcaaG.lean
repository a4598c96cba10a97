/- Threads: the iterator over the threads of the innermost scope. -/
import Derived.RangeFuncNested
import Derived.RangeFuncBound
import Derived.RangeFuncCalls
import Derived.RangeFuncLeaves
import Derived.RangeFuncBox
import Derived.Shelf.Abstract
import Derived.Shelf.RegionOpen
import Derived.OwnWalkIn
import Derived.TacticsInMore
import Derived.LoopNIn
import Derived.LoopIn
import Derived.Stop.RegionWithIn
import Derived.Sort.AtCallIn
import Derived.Sort.CutIn
import Derived.Test.YtnhhinlhfaapcaaF
namespace Go.Proofs.Ytnhhinlhfaapcaa
open Go.RowKit Go.Shelf
set_option linter.unusedVariables false
attribute [local go_sem] Oper.semAt_some

/-- the threads of the innermost open scope -/
def memL (t : Tab) (n : Int) : List Nat := if hasB t n then (if 0 < dep t n.toNat then mem t n.toNat (dep t n.toNat - 1) else []) else []
theorem memL_no {t : Tab} {n : Int} (h : hasB t n = false) : memL t n = [] := by unfold memL; rw [h]; rfl
theorem memL_zero {t : Tab} {i : Nat} (h : dep t i = 0) : memL t (i : Int) = [] := by
  unfold memL
  split
  · rw [Int.toNat_natCast, if_neg (by omega)]
  · rfl
theorem memL_in {t : Tab} {i ln : Nat} (hi : i < t.n) (h : dep t i = ln + 1) : memL t (i : Int) = mem t i ln := by
  unfold memL
  rw [if_pos (has_in hi), Int.toNat_natCast, if_pos (by omega), h]; rfl

set_option maxRecDepth 100000 in
set_option maxHeartbeats 6400000 in
theorem members1_in (n : Nat) (hn : 1 ≤ n) (l b1 b2 g B : Nat) (t : Tab) (N : Int) (wt w0 : World) (hx : TabR wt B g t) (hwt : Below wt.heap.size wt w0) (h1 : w0.cell? ⟨b1, 0, none⟩ = some (.pointer (some ⟨g, 0, none⟩))) (h2 : w0.cell? ⟨b2, 0, none⟩ = some (.int .i64 N)) (hb1 : b1 < w0.heap.size) (hb2 : b2 < w0.heap.size)
    (hm9 : (memL t N).length ≤ 1000) (J Jx : List Nat → World → Prop)
    (hY : ∀ pre x W, J pre W → pre.length < (memL t N).length → x ∈ memL t N → YieldAt Fence.wide (n - 1) Try.prog l #[natV x] W fun e W' =>
      (e = .returned (.bool true) ∧ J (pre ++ [x]) W' ∧ Below wt.heap.size W W') ∨ (e = .returned (.bool false) ∧ Jx (pre ++ [x]) W'))
    (W : World) (hW : Below w0.heap.size w0 W) (h0 : J [] W) (hJd : ∀ pre W, J pre W → J pre W.drew) :
    CallsIn Fence.wide n Try.prog 40 #[.func (.yield l) #[] #[], .pointer (some ⟨b1, 0, none⟩), .pointer (some ⟨b2, 0, none⟩)] W fun e W' => (∃ v, e = .returned v) ∧
      ((∃ ys, ys = memL t N ∧ J ys W') ∨ (∃ pre, (∃ k, k ≤ (memL t N).length ∧ pre = (memL t N).take k) ∧ Jx pre W')) := by
  have q1 : W.cell? ⟨b1, 0, none⟩ = some (.pointer (some ⟨g, 0, none⟩)) := (hW.cell (p := ⟨b1, 0, none⟩) hb1).trans h1
  have q2 : W.cell? ⟨b2, 0, none⟩ = some (.int .i64 N) := (hW.cell (p := ⟨b2, 0, none⟩) hb2).trans h2
  replace hW : Below wt.heap.size wt W := hwt.trans (hW.mono hwt.size)
  have HR := Lib.hid (callsIn_wide (n := n - 1).2 (has_any g B t N W.drew ((hx.below hW).drew_)))
  refine callsIn_of_wp Try.func40 rfl trivial ?_ rfl
  simp only [Try.ntmps40, List.size_toArray, List.length_cons, List.length_nil, Nat.reduceAdd, Nat.reduceSub, Array.replicate_succ, Array.replicate_zero, List.push_toArray, List.append_toArray, List.nil_append, List.cons_append]
  rcases has_cases t N with hn0 | ⟨i, rfl, hi⟩
  · rw [hn0] at HR
    have HM := Lib.hid (memL_no hn0)
    have H0 := Lib.hid (hJd _ _ h0)
    clear hx hY hn0 h0
    gi_wp2
    gi_cut [21] from 22 (fun v wx => v = .bool true ∧ W.drew = wx)
    case first =>
      gi_region_with (first
        | (refine ⟨trivial, ?_⟩; gi_at_call 31; refine HR.out.mono ?_; rintro e w' ⟨rfl, rfl⟩))
      all_goals
        gi_wp2
        gi_meet
        case rel => exact ⟨rfl, rfl⟩
    case rest =>
    obtain ⟨rfl, rfl⟩ := hcut
    gi_wp2
    refine bodyPost_ret (results_none rfl _ _ _) rfl ?_
    exact ⟨⟨_, rfl⟩, .inl ⟨_, HM.out.symm, H0.out⟩⟩
  · rw [has_in hi] at HR
    obtain ⟨v, S, C, hx⟩ := hx
    obtain ⟨gl, cl, rfl⟩ := hx.l
    have hxW := hx.below hW
    have c0 := hxW.box
    obtain ⟨d0, d1, d2, d3⟩ := hxW.cells hi
    have hiI : (i : Int) < (t.n : Int) := by omega
    have hii0 : (0 : Int) ≤ (i : Int) := by omega
    rcases Nat.eq_zero_or_pos (dep t i) with hd | hd
    · obtain ⟨As, cs, hs, _, _, _⟩ := hxW.sform hi
      rw [hs, hd] at d3
      have HM := Lib.hid (memL_zero hd)
      have H0 := Lib.hid (hJd _ _ h0)
      clear hx hxW hY h0 hs hd d0 d1 d2
      gi_wp2
      gi_cut [21] from 22 (fun v wx => v = .bool true ∧ W.drew = wx)
      case first =>
        gi_region_with (first
          | (refine ⟨trivial, ?_⟩; gi_at_call 31; refine HR.out.mono ?_; rintro e w' ⟨rfl, rfl⟩))
        all_goals
          gi_wp2
          gi_meet
          case rel => exact ⟨rfl, rfl⟩
      case rest =>
      obtain ⟨rfl, rfl⟩ := hcut
      gi_wp2
      refine bodyPost_ret (results_none rfl _ _ _) rfl ?_
      exact ⟨⟨_, rfl⟩, .inl ⟨_, HM.out.symm, H0.out⟩⟩
    · obtain ⟨ln, hln⟩ : ∃ m, dep t i = m + 1 := ⟨dep t i - 1, by omega⟩
      obtain ⟨gs, cs, hs⟩ := (hxW.os i hi).form hd
      rw [hs, hln] at d3
      have hrow := hxW.os i hi
      rw [hs] at hrow
      have e1 := hrow.cell (j := ln) (by omega)
      rw [List.getElem?_map, List.getElem?_range (by omega)] at e1
      replace e1 : W.cell? ⟨gs, ln, none⟩ = some (C i ln) := e1
      have oC := hx.oi i ln hi (by omega)
      obtain ⟨Ac, cc, hC⟩ := own_slice oC
      rw [memL_in hi hln] at *
      obtain ⟨ml, hml⟩ : ∃ m, (mem t i ln).length = m := ⟨_, rfl⟩
      rw [hml] at oC hC hm9 hY
      rw [hC] at e1 oC
      have HOC := Lib.hid oC
      have HML := Lib.hid hml
      have H0 := Lib.hid (hJd _ _ (hJd _ _ h0))
      have HY := Lib.hid hY
      have HJD := Lib.hid hJd
      have HW := Lib.hid hW
      have hlnI : ln ≤ 9223372036854775806 := by
        have h5 := (hxW.sform hi)
        obtain ⟨A', c', _, h6, _, h7⟩ := h5
        unfold maxLen at h7
        omega
      clear hx hxW hY h0 hs hd d0 d1 d2 hrow oC hC hJd
      gi_wp2
      gi_cut [21] from 22 (fun v wx => v = .bool false ∧ W.drew = wx)
      case first =>
        gi_region_with (first
          | (refine ⟨trivial, ?_⟩; gi_at_call 31; refine HR.out.mono ?_; rintro e w' ⟨rfl, rfl⟩))
        all_goals
          gi_wp2
          gi_meet
          case rel => exact ⟨rfl, rfl⟩
      case rest =>
      obtain ⟨rfl, rfl⟩ := hcut
      gi_wp2
      gi_cut [41, 42, 43] from 44 (fun a b c wx => a = .slice Ac ml cc ∧ b = .int .i64 ml ∧ c = .int .i64 0 ∧ W.drew.drew = wx)
      case first =>
        gi_region
        all_goals
          gi_wp2
          gi_meet
          case rel => exact ⟨rfl, rfl, rfl, rfl⟩
      case rest =>
      obtain ⟨rfl, rfl, rfl, rfl⟩ := hcut
      gi_wp2
      obtain ⟨M, hM⟩ : ∃ M, M = mem t i ln := ⟨_, rfl⟩
      rw [← hM] at HOC HML
      have HMM := Lib.hid hM
      have HBW := Lib.hid (HW.out.drew.drew)
      have HJ0 := Lib.hid H0.out
      obtain ⟨W2, hW2⟩ : ∃ W2, W2 = W.drew.drew := ⟨_, rfl⟩
      have HO2 := Lib.hid (show W2.ownsRow B 3 1 (.slice Ac ml cc) ml (M.map natV) by
        rw [hW2]
        exact own_below (own_below HOC.out HW.out) ((Below.refl _ _).drew.drew))
      rw [← hW2] at HBW HJ0 ⊢
      have hsz := HW.out.size
      have HS2 := Lib.hid (show wt.heap.size ≤ W2.heap.size by rw [hW2]; exact hsz)
      have HWM := Lib.hid (fun (W3 : World) (hb : Below wt.heap.size wt W3) => (own_below HOC.out hb : W3.ownsRow B 3 1 (.slice Ac ml cc) ml (M.map natV)))
      clear hM hW2 q1 q2 c0 d3 e1 hsz
      gi_loopw [43] (fun j wr => ∃ k : Nat, k ≤ ml ∧ j = .int .i64 k ∧ J (M.take k) wr ∧ Below wt.heap.size wt wr) (fun j _ => ml - (intOf j).toNat)
      case atStart => exact ⟨0, Nat.zero_le _, rfl, by rw [List.take_zero]; exact HJ0.out, HBW.out⟩
      case round =>
        obtain ⟨k, hk, rfl, hJs, hnx⟩ := hrel
        by_cases hlt : k < ml
        · obtain ⟨y, hy0⟩ : ∃ y, M[k]? = some y := ⟨_, List.getElem?_eq_getElem (by rw [HML.out]; exact hlt)⟩
          have hkI : (k : Int) < (ml : Int) := by omega
          have hrow := HWM.out _ hnx
          obtain ⟨ga, ca, eA⟩ : ∃ g c, Value.slice Ac ml cc = .slice (some ⟨g, 0, none⟩) ml c := by
            rcases hrow.2 with ⟨_, h⟩ | ⟨g, c, _, h, _⟩
            · omega
            · exact ⟨g, c, h⟩
          rw [Value.slice.injEq] at eA
          obtain ⟨rfl, _, rfl⟩ := eA
          have cy := hrow.cellAt k (by omega)
          rw [List.getElem?_map, hy0] at cy
          replace cy : wr.cell? ⟨ga, k, none⟩ = some (.int .i64 y) := cy
          obtain ⟨fn, tmps, assign, body, hy, hR⟩ := HY.out _ y wr hJs (by rw [List.length_take, HML.out]; omega) (by rw [← HMM.out]; exact List.mem_of_getElem? hy0)
          unfold natV at hy
          have HTK := Lib.hid (show M.take k ++ [y] = M.take (k + 1) by rw [List.take_add_one, hy0]; rfl)
          have HR := hR.mono (R' := fun e W' => ∃ b : Bool, e = .returned (.bool b) ∧ ((b = true ∧ J (M.take (k + 1)) W' ∧ Below wt.heap.size wr W') ∨ (b = false ∧ Jx (M.take (k + 1)) W'))) (by
            rintro e W' (⟨rfl, h1, h2⟩ | ⟨rfl, h1⟩)
            · exact ⟨true, rfl, .inl ⟨rfl, by rw [← HTK.out]; exact h1, h2⟩⟩
            · exact ⟨false, rfl, .inr ⟨rfl, by rw [← HTK.out]; exact h1⟩⟩)
          have HNX := Lib.hid hnx
          clear hnx hJs hR hrow hy0
          gi_wp2_with fail
          refine HR.mono ?_
          rintro e W3 ⟨tb, rfl, hT⟩
          rcases hT with ⟨rfl, hJ3, hk3⟩ | ⟨rfl, hJx3⟩
          · gi_wp2
            go_roundw
            case rel => exact ⟨k + 1, by omega, by go_num, hJ3, HNX.out.trans hk3⟩
            case measure => simp [intOf] <;> omega
          · gi_wp2
            refine bodyPost_ret (results_none rfl _ _ _) rfl ?_
            exact ⟨⟨_, rfl⟩, .inr ⟨M.take (k + 1), ⟨k + 1, by rw [← HMM.out, HML.out]; omega, by rw [← HMM.out]⟩, hJx3⟩⟩
        · obtain rfl : k = ml := by omega
          have hJf : J M wr := by rw [List.take_of_length_le (by rw [HML.out]; exact Nat.le_refl _)] at hJs; exact hJs
          have HJF := Lib.hid hJf
          clear hJs hJf
          gi_wp2
          go_end0
          exact ⟨⟨_, rfl⟩, .inl ⟨_, rfl, by rw [← HMM.out]; exact HJF.out⟩⟩
end Go.Proofs.Ytnhhinlhfaapcaa
