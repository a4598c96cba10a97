/- Clock: the iterator over two clocks' numbers, and Within and Same, which range over it. -/
import Derived.RangeFuncNested
import Derived.RangeFuncBound
import Derived.RangeFuncCalls
import Derived.RangeFuncLeaves
import Derived.RangeFuncBox
import Derived.Shelf.Abstract
import Derived.Shelf.RegionOpen
import Derived.OwnWalkIn
import Derived.TacticsInMore
import Derived.LoopNIn
import Derived.LoopIn
import Derived.Stop.RegionWithIn
import Derived.Sort.AtCallIn
import Derived.Test.YtfhainobolfleaaC
namespace Go.Proofs.Ytfhainobolfleaa
open Go.RowKit Go.Shelf
set_option linter.unusedVariables false
attribute [local go_sem] Oper.semAt_some

def upto {α : Type} (f : Nat → α) (k : Nat) : List α := (List.range k).map f
theorem upto_succ {α : Type} (f : Nat → α) (k : Nat) : upto f (k + 1) = upto f k ++ [f k] := by simp [upto, List.range_succ]
theorem upto_length {α : Type} (f : Nat → α) (k : Nat) : (upto f k).length = k := by simp [upto]
def pairF (C D : List Int) (k : Nat) : Int × Int := (atZ C k, atZ D k)

set_option maxRecDepth 100000 in
set_option maxHeartbeats 4000000 in
theorem pairs1_in (n : Nat) (hn : 1 ≤ n) (l b1 b2 n₀ : Nat) (A1 A2 : Option Addr) (l1 c1 l2 c2 N : Nat) (C D : List Int) (hl1 : C.length = l1) (hl2 : D.length = l2) (hN : max l1 l2 = N) (hN9 : N ≤ 1000000) (hbb1 : b1 < n₀) (hbb2 : b2 < n₀) (J Jx : List (Int × Int) → World → Prop)
    (hY : ∀ pre x W, J pre W → pre.length < N → YieldAt Fence.wide (n - 1) Try.prog l #[.int .i64 x.1, .int .i64 x.2] W fun e W' =>
      (e = .returned (.bool true) ∧ J (pre ++ [x]) W' ∧ Below n₀ W W') ∨ (e = .returned (.bool false) ∧ Jx (pre ++ [x]) W'))
    (W : World) (hB1 : W.cell? ⟨b1, 0, none⟩ = some (.slice A1 l1 c1)) (hB2 : W.cell? ⟨b2, 0, none⟩ = some (.slice A2 l2 c2)) (r1 : Rd W n₀ 1 intC A1 C) (r2 : Rd W n₀ 1 intC A2 D) (h0 : J [] W) (hJd : ∀ pre W, J pre W → J pre W.drew) :
    CallsIn Fence.wide n Try.prog 27 #[.func (.yield l) #[] #[], .pointer (some ⟨b1, 0, none⟩), .pointer (some ⟨b2, 0, none⟩)] W fun e W' => (∃ v, e = .returned v) ∧
      ((∃ ys, ys = upto (pairF C D) N ∧ J ys W') ∨ (∃ pre, (∃ k, k ≤ N ∧ pre = upto (pairF C D) k) ∧ Jx pre W')) := by
  have H1 := Lib.hid hl1
  have H2 := Lib.hid hl2
  clear hl1 hl2
  refine callsIn_of_wp Try.func27 rfl trivial ?_ rfl
  simp only [Try.ntmps27, List.size_toArray, List.length_cons, List.length_nil, Nat.reduceAdd, Nat.reduceSub, Array.replicate_succ, Array.replicate_zero, List.push_toArray, List.append_toArray, List.nil_append, List.cons_append]
  by_cases hl : l1 < l2
  · obtain rfl : l2 = N := by omega
    clear hN
    gi_wp2
    gi_loopw [10] (fun i wr => ∃ k : Nat, k ≤ l2 ∧ i = .int .i64 k ∧ J (upto (pairF C D) k) wr ∧ Below n₀ W wr) (fun i _ => l2 - (intOf i).toNat)
    case atStart => exact ⟨0, Nat.zero_le _, rfl, h0, Below.refl _ _⟩
    case round =>
      obtain ⟨k, hk, rfl, hJs, hnx⟩ := hrel
      have q1 : wr.cell? ⟨b1, 0, none⟩ = some (.slice A1 l1 c1) := (hnx.cell (p := ⟨b1, 0, none⟩) hbb1).trans hB1
      have q2 : wr.cell? ⟨b2, 0, none⟩ = some (.slice A2 l2 c2) := (hnx.cell (p := ⟨b2, 0, none⟩) hbb2).trans hB2
      by_cases hlt : k < l2
      · have hJd : J (upto (pairF C D) k) wr.drew := hJd _ _ hJs
        obtain ⟨fn, tmps, assign, body, hy, hR⟩ := hY _ (pairF C D k) wr.drew hJd (by rw [upto_length]; exact hlt)
        dsimp only [pairF] at hy
        have HR := hR.mono (R' := fun e W' => ∃ t : Bool, e = .returned (.bool t) ∧ ((t = true ∧ J (upto (pairF C D) k ++ [pairF C D k]) W' ∧ Below n₀ wr.drew W') ∨ (t = false ∧ Jx (upto (pairF C D) k ++ [pairF C D k]) W'))) (by
          rintro e W' (⟨rfl, h1, h2⟩ | ⟨rfl, h1⟩)
          · exact ⟨true, rfl, .inl ⟨rfl, h1, h2⟩⟩
          · exact ⟨false, rfl, .inr ⟨rfl, h1⟩⟩)
        have hki : (k : Int) < (l2 : Int) := by omega
        have rr1 : Rd wr.drew n₀ 1 intC A1 C := (r1.below hnx).drew
        have rr2 : Rd wr.drew n₀ 1 intC A2 D := (r2.below hnx).drew
        have HX := Lib.hid hnx
        have HR1 := Lib.hid (callsIn_wide (n := n - 1).2 (at_12 (n := k) (c := c1) H1.out rr1))
        have HR2 := Lib.hid (callsIn_wide (n := n - 1).2 (at_12 (n := k) (c := c2) H2.out rr2))
        clear hnx rr1 rr2 hJs hJd hR
        gi_wp2
        gi_region_with (first
          | (refine ⟨trivial, ?_⟩; gi_at_call_has 12 (Value.slice A1 l1 c1); refine HR1.out.mono ?_; rintro e w' ⟨rfl, rfl⟩)
          | (refine ⟨trivial, ?_⟩; gi_at_call_has 12 (Value.slice A2 l2 c2); refine HR2.out.mono ?_; rintro e w' ⟨rfl, rfl⟩)
          | (refine HR.mono ?_; rintro e W3 ⟨tb, rfl, hT⟩))
        all_goals
          rcases hT with ⟨rfl, hJ3, hk3⟩ | ⟨rfl, hJx3⟩
          · gi_wp2
            go_roundw
            case rel => exact ⟨k + 1, by omega, by go_num, by rw [upto_succ]; exact hJ3, HX.out.drew.trans hk3⟩
            case measure => simp [intOf] <;> omega
          · gi_wp2
            refine bodyPost_ret (results_none rfl _ _ _) rfl ?_
            exact ⟨⟨_, rfl⟩, .inr ⟨_, ⟨k + 1, by omega, (upto_succ _ _).symm⟩, hJx3⟩⟩
      · obtain rfl : k = l2 := by omega
        gi_wp2
        go_end0
        exact ⟨⟨_, rfl⟩, .inl ⟨_, rfl, hJs⟩⟩
  · obtain rfl : l1 = N := by omega
    clear hN
    gi_wp2
    gi_loopw [10] (fun i wr => ∃ k : Nat, k ≤ l1 ∧ i = .int .i64 k ∧ J (upto (pairF C D) k) wr ∧ Below n₀ W wr) (fun i _ => l1 - (intOf i).toNat)
    case atStart => exact ⟨0, Nat.zero_le _, rfl, h0, Below.refl _ _⟩
    case round =>
      obtain ⟨k, hk, rfl, hJs, hnx⟩ := hrel
      have q1 : wr.cell? ⟨b1, 0, none⟩ = some (.slice A1 l1 c1) := (hnx.cell (p := ⟨b1, 0, none⟩) hbb1).trans hB1
      have q2 : wr.cell? ⟨b2, 0, none⟩ = some (.slice A2 l2 c2) := (hnx.cell (p := ⟨b2, 0, none⟩) hbb2).trans hB2
      by_cases hlt : k < l1
      · have hJd : J (upto (pairF C D) k) wr.drew := hJd _ _ hJs
        obtain ⟨fn, tmps, assign, body, hy, hR⟩ := hY _ (pairF C D k) wr.drew hJd (by rw [upto_length]; exact hlt)
        dsimp only [pairF] at hy
        have HR := hR.mono (R' := fun e W' => ∃ t : Bool, e = .returned (.bool t) ∧ ((t = true ∧ J (upto (pairF C D) k ++ [pairF C D k]) W' ∧ Below n₀ wr.drew W') ∨ (t = false ∧ Jx (upto (pairF C D) k ++ [pairF C D k]) W'))) (by
          rintro e W' (⟨rfl, h1, h2⟩ | ⟨rfl, h1⟩)
          · exact ⟨true, rfl, .inl ⟨rfl, h1, h2⟩⟩
          · exact ⟨false, rfl, .inr ⟨rfl, h1⟩⟩)
        have hki : (k : Int) < (l1 : Int) := by omega
        have rr1 : Rd wr.drew n₀ 1 intC A1 C := (r1.below hnx).drew
        have rr2 : Rd wr.drew n₀ 1 intC A2 D := (r2.below hnx).drew
        have HX := Lib.hid hnx
        have HR1 := Lib.hid (callsIn_wide (n := n - 1).2 (at_12 (n := k) (c := c1) H1.out rr1))
        have HR2 := Lib.hid (callsIn_wide (n := n - 1).2 (at_12 (n := k) (c := c2) H2.out rr2))
        clear hnx rr1 rr2 hJs hJd hR
        gi_wp2
        gi_region_with (first
          | (refine ⟨trivial, ?_⟩; gi_at_call_has 12 (Value.slice A1 l1 c1); refine HR1.out.mono ?_; rintro e w' ⟨rfl, rfl⟩)
          | (refine ⟨trivial, ?_⟩; gi_at_call_has 12 (Value.slice A2 l2 c2); refine HR2.out.mono ?_; rintro e w' ⟨rfl, rfl⟩)
          | (refine HR.mono ?_; rintro e W3 ⟨tb, rfl, hT⟩))
        all_goals
          rcases hT with ⟨rfl, hJ3, hk3⟩ | ⟨rfl, hJx3⟩
          · gi_wp2
            go_roundw
            case rel => exact ⟨k + 1, by omega, by go_num, by rw [upto_succ]; exact hJ3, HX.out.drew.trans hk3⟩
            case measure => simp [intOf] <;> omega
          · gi_wp2
            refine bodyPost_ret (results_none rfl _ _ _) rfl ?_
            exact ⟨⟨_, rfl⟩, .inr ⟨_, ⟨k + 1, by omega, (upto_succ _ _).symm⟩, hJx3⟩⟩
      · obtain rfl : k = l1 := by omega
        gi_wp2
        go_end0
        exact ⟨⟨_, rfl⟩, .inl ⟨_, rfl, hJs⟩⟩

theorem pairs_in (n : Nat) (A1 A2 : Option Addr) (l1 c1 l2 c2 : Nat) (w : World) :
    CallsIn Fence.wide n Try.prog 26 #[.slice A1 l1 c1, .slice A2 l2 c2] w fun e w' => e = .returned (.func (.func 27) #[] #[.pointer (some ⟨w.heap.size, 0, none⟩), .pointer (some ⟨w.heap.size + 1, 0, none⟩)]) ∧ w' = (w.alloc (.cells #[.slice A1 l1 c1] 22)).alloc (.cells #[.slice A2 l2 c2] 22) := by
  have hmf : ∀ (fn : Fn) (first cap : Array Value) (w : World), (Instr.makeFunc fn first cap).run Try.prog w = .ok (.func fn first cap) w := fun _ _ _ _ => rfl
  refine callsIn_of_wp Try.func26 rfl trivial ?_ rfl
  simp only [Try.ntmps26, List.size_toArray, List.length_cons, List.length_nil, Nat.reduceAdd, Nat.reduceSub, Array.replicate_succ, Array.replicate_zero, List.push_toArray, List.append_toArray, List.nil_append, List.cons_append]
  gi_wp2
  go_ret
  exact ⟨rfl, rfl⟩

theorem pairs_stops (n : Nat) (hn : 1 ≤ n) (b1 b2 n₀ : Nat) (A1 A2 : Option Addr) (l1 c1 l2 c2 N : Nat) (C D : List Int) (hl1 : C.length = l1) (hl2 : D.length = l2) (hN : max l1 l2 = N) (hN9 : N ≤ 1000000) (hbb1 : b1 < n₀) (hbb2 : b2 < n₀) (w : World) (hn₀ : n₀ ≤ w.heap.size)
    (hB1 : w.cell? ⟨b1, 0, none⟩ = some (.slice A1 l1 c1)) (hB2 : w.cell? ⟨b2, 0, none⟩ = some (.slice A2 l2 c2)) (r1 : Rd w n₀ 1 intC A1 C) (r2 : Rd w n₀ 1 intC A2 D) :
    SeqStopsK Fence.wide n Try.prog 27 #[.pointer (some ⟨b1, 0, none⟩), .pointer (some ⟨b2, 0, none⟩)] (fun x : Int × Int => #[Value.int .i64 x.1, Value.int .i64 x.2]) (Below n₀) (fun ys => ys = upto (pairF C D) N)
      (fun pre => ∃ k, k ≤ N ∧ pre = upto (pairF C D) k) N w := fun l J Jx W hW hJ hJx hY h0 => by
  have hW' := hW.mono hn₀
  refine pairs1_in n hn l b1 b2 n₀ A1 A2 l1 c1 l2 c2 N C D hl1 hl2 hN hN9 hbb1 hbb2 J Jx hY W ((hW'.cell (p := ⟨b1, 0, none⟩) hbb1).trans hB1) ((hW'.cell (p := ⟨b2, 0, none⟩) hbb2).trans hB2) (r1.below hW') (r2.below hW') h0 ?_
  intro pre W1 h1
  exact hJ pre W1 W1.drew none h1 ⟨rfl, rfl, rfl, Nat.le_refl _, fun _ _ _ => rfl⟩ (fun r e => by cases e)
end Go.Proofs.Ytfhainobolfleaa
