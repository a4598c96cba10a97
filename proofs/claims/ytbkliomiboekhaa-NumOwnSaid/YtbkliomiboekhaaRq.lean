/- Numbers: the contract of the document's Print. -/
import Derived.Test.YtbkliomiboekhaaPB
import Derived.Test.YtbkliomiboekhaaPr
import Derived.Deep.DeepCutAuto
import Derived.IntWalk
namespace Go.Proofs.Ytbkliomiboekhaa
open Go.RowKit
set_option linter.unusedVariables false

theorem run_oneq (W : World) (x : Int) (c : UInt8) (h : UInt8.ofNat x.toNat = c) : (convert 37 9 (.slice (some ⟨W.heap.size, 0, none⟩) 1 1)).run Try.prog (W.alloc (.cells #[.int .u8 x] 5)) = .ok (.string ⟨#[c]⟩) (W.alloc (.cells #[.int .u8 x] 5)) := by
  subst h
  exact run_convert_bytes_arg (P := Try.prog) (W.alloc (.cells #[.int .u8 x] 5)) 37 5 Try.underlying37 Try.underlying5 W.heap.size 0 1 1 [x] rfl (fun i hi => by
    obtain rfl : i = 0 := by omega
    exact (Blk.new W 5 #[.int .u8 x]).cell 0) 9 Try.underlying9
theorem cell_drew_new (w : World) (v : Value) : (w.alloc (.cells #[v] 5)).drew.cell? ⟨w.heap.size, 0, none⟩ = some v := (Blk.new w 5 #[v]).cell' 0 _ rfl
theorem cell_drew_lt (w : World) (v : Value) : w.heap.size < (w.alloc (.cells #[v] 5)).drew.heap.size := (Blk.new w 5 #[v]).lt
def txt (l : List UInt8) : ByteArray := ⟨l.toArray⟩
theorem txt_app (l m : List UInt8) : txt l ++ txt m = txt (l ++ m) := by
  apply ByteArray.ext
  unfold txt
  simp
theorem txt_size (l : List UInt8) : (txt l).size = l.length := by unfold txt; rfl
theorem pri_one_low {d : Nat} (h0 : 0 < d) (h : d < 10) : priL (-(d : Int)) = [45, dch d] := by
  unfold priL
  rw [if_pos (by omega), show (-(d : Int)).natAbs = d by omega, digs_lt h]
theorem pri_one_up {d : Nat} (h : d < 10) : priL (d : Int) = [dch d] := by
  unfold priL
  rw [if_neg (by omega), show ((d : Int)).natAbs = d by omega, digs_lt h]
theorem q10 (a : Int) : (a < 0 → a.tdiv 10 = -((-a) / 10)) ∧ (0 ≤ a → a.tdiv 10 = a / 10) ∧ 10 * a.tdiv 10 + a.tmod 10 = a := by
  refine ⟨fun h => ?_, fun h => Int.tdiv_eq_ediv_of_nonneg h, Int.mul_tdiv_add_tmod a 10⟩
  have h1 : (-(-a)).tdiv 10 = -((-a).tdiv 10) := Int.neg_tdiv _ _
  rw [Int.neg_neg, Int.tdiv_eq_ediv_of_nonneg (show 0 ≤ -a by omega)] at h1
  exact h1
theorem pri_more {a : Int} (h : 10 ≤ a.natAbs) : priL a = priL (a.tdiv 10) ++ [dch (a.natAbs % 10)] := by
  have h1 : (a.tdiv 10).natAbs = a.natAbs / 10 := by rw [Int.natAbs_tdiv]; rfl
  obtain ⟨f1, f2, f3⟩ := q10 a
  by_cases ha : a < 0
  · have h2 : a.tdiv 10 < 0 := by rw [f1 ha]; omega
    unfold priL
    rw [if_pos ha, if_pos h2, h1, digs_ge (by omega)]; rfl
  · have h2 : ¬ a.tdiv 10 < 0 := by rw [f2 (by omega)]; omega
    unfold priL
    rw [if_neg ha, if_neg h2, h1, digs_ge (by omega)]
theorem pri_len {a : Int} (a1 : -9223372036854775808 ≤ a) (a2 : a ≤ 9223372036854775807) : (priL a).length ≤ 20 := by
  have := rdigs_len 19 a.natAbs (by omega) (by omega)
  rw [pri_rev, List.length_reverse]
  split
  · rw [List.length_append]; simp; omega
  · omega
theorem dch_of {x : Int} {d : Nat} (h : x = 48 + (d : Int)) (hd : d < 10) : UInt8.ofNat x.toNat = dch d := by
  unfold dch; rw [show x.toNat = 48 + d by omega]

set_option maxHeartbeats 4000000 in
set_option maxRecDepth 100000 in
theorem refPrint_upto : ∀ (M : Nat) (a : Int) (w : World) (hM : a.natAbs ≤ M) (a1 : -9223372036854775808 ≤ a) (a2 : a ≤ 9223372036854775807), Calls Try.prog 27 #[.int .i64 a] w fun r w' => r = .returned (.string (txt (priL a))) ∧ Below w.heap.size w w' := by
  intro M
  induction M using Nat.strongRecOn with
  | _ M ih =>
  intro a w hM a1 a2
  have HB := Lib.hid (Below.refl w.heap.size w)
  by_cases hs : a.natAbs < 10
  · by_cases hneg : a < 0
    · obtain ⟨d, hd⟩ : ∃ d : Nat, a = -(d : Int) := ⟨a.natAbs, by omega⟩
      subst hd
      have hd0 : 0 < d := by omega
      have hd9 : d < 10 := by omega
      have HP := Lib.hid (pri_one_low hd0 hd9)
      have hcv : ∀ W : World, (convert 37 9 (.slice (some ⟨W.heap.size, 0, none⟩) 1 1)).run Try.prog (W.alloc (.cells #[.int .u8 (48 + (d : Int))] 5)) = .ok (.string ⟨#[dch d]⟩) (W.alloc (.cells #[.int .u8 (48 + (d : Int))] 5)) := fun W => run_oneq W _ _ (dch_of rfl hd9)
      have hcat : ∀ W : World, (Op.stringOp .add ⟨#[45]⟩ ⟨#[dch d]⟩).run Try.prog W = .ok (.string (txt [45, dch d])) W := fun W => by
        have h : (⟨#[45]⟩ : ByteArray) ++ ⟨#[dch d]⟩ = txt [45, dch d] := txt_app [45] [dch d]
        rw [← h]; exact run_string_add_sum (P := Try.prog) W _ _ (by show 2 ≤ maxLen; decide)
      have e1 : (48 : Int) - -(d : Int) = 48 + (d : Int) := by omega
      clear ih hM hs
      go_enter Try.func27, Try.ntmps27
      go_wp2
      go_ret
      exact ⟨by rw [HP.out]; rfl, HB.out.alloc (Nat.le_refl _) _⟩
    · obtain ⟨d, hd⟩ : ∃ d : Nat, a = (d : Int) := ⟨a.natAbs, by omega⟩
      subst hd
      have hd9 : d < 10 := by omega
      have HP := Lib.hid (pri_one_up hd9)
      have hcv : ∀ W : World, (convert 37 9 (.slice (some ⟨W.heap.size, 0, none⟩) 1 1)).run Try.prog (W.alloc (.cells #[.int .u8 (48 + (d : Int))] 5)) = .ok (.string ⟨#[dch d]⟩) (W.alloc (.cells #[.int .u8 (48 + (d : Int))] 5)) := fun W => run_oneq W _ _ (dch_of rfl hd9)
      have hdi : (d : Int) < 10 := by omega
      clear ih hM hs
      go_enter Try.func27, Try.ntmps27
      go_wp2
      go_ret
      exact ⟨by rw [HP.out]; rfl, HB.out.alloc (Nat.le_refl _) _⟩
  · obtain ⟨f1, f2, f3⟩ := q10 a
    have fq : a.tdiv 10 = if a < 0 then -((-a) / 10) else a / 10 := by
      split
      · rename_i h; exact f1 h
      · rename_i h; exact f2 (by omega)
    clear f1 f2
    have hq : (a.tdiv 10).natAbs < M := by split at fq <;> omega
    have hq1 : -9223372036854775808 ≤ a.tdiv 10 := by split at fq <;> omega
    have hq2 : a.tdiv 10 ≤ 9223372036854775807 := by split at fq <;> omega
    obtain ⟨q, hqq⟩ : ∃ q, q = a.tdiv 10 := ⟨_, rfl⟩
    have HR := Lib.hid (fun W => ih (a.tdiv 10).natAbs hq (a.tdiv 10) W (Nat.le_refl _) hq1 hq2)
    have hdd : a.natAbs % 10 < 10 := Nat.mod_lt _ (by decide)
    obtain ⟨d, hd⟩ : ∃ d : Nat, d = a.natAbs % 10 := ⟨_, rfl⟩
    rw [← hd] at hdd
    have HP := Lib.hid (show priL a = priL (a.tdiv 10) ++ [dch d] by rw [hd]; exact pri_more (by omega))
    have HL := Lib.hid (pri_len hq1 hq2)
    have hcv : ∀ W : World, (convert 37 9 (.slice (some ⟨W.heap.size, 0, none⟩) 1 1)).run Try.prog (W.alloc (.cells #[.int .u8 (48 + (d : Int))] 5)) = .ok (.string ⟨#[dch d]⟩) (W.alloc (.cells #[.int .u8 (48 + (d : Int))] 5)) := fun W => run_oneq W _ _ (dch_of rfl hdd)
    have hcat : ∀ W : World, (Op.stringOp .add (txt (priL (a.tdiv 10))) ⟨#[dch d]⟩).run Try.prog W = .ok (.string (txt (priL (a.tdiv 10) ++ [dch d]))) W := fun W => by
      rw [← txt_app]
      refine run_string_add_sum (P := Try.prog) W _ _ ?_
      rw [txt_size]
      show (priL (a.tdiv 10)).length + 1 ≤ _
      have := HL.out
      omega
    have hcx : ∀ W1 : World, W1.cell? ⟨w.heap.size, 0, none⟩ = some (.int .u8 (48 + (d : Int))) → (convert 37 9 (.slice (some ⟨w.heap.size, 0, none⟩) 1 1)).run Try.prog W1 = .ok (.string ⟨#[dch d]⟩) W1 := by
      intro W1 hc
      have h := run_convert_bytes_arg (P := Try.prog) W1 37 5 Try.underlying37 Try.underlying5 w.heap.size 0 1 1 [48 + (d : Int)] rfl (fun i hi => by
        obtain rfl : i = 0 := by omega
        exact hc) 9 Try.underlying9
      rw [← dch_of rfl hdd]
      exact h
    have hwr : IntKind.i64.wrap (a.tdiv 10) = q := by rw [hqq]; exact IntWalk.i64_in _ ⟨by omega, by omega⟩
    have hw1 : IntKind.i64.wrap (48 + (d : Int)) = 48 + (d : Int) := IntWalk.i64_in _ ⟨by omega, by omega⟩
    have hw2 : IntKind.u8.wrap (48 + (d : Int)) = 48 + (d : Int) := IntWalk.u8_in _ ⟨by omega, by omega⟩
    rw [← hqq] at HR HP hcat HL
    have FQ := Lib.hid fq
    have HD := Lib.hid hd
    have F3 := Lib.hid f3
    clear ih hM hq hq1 hq2 fq hd f3 hqq
    by_cases hneg : a < 0
    · have hm10 : ¬ -10 < a := by omega
      have e1 : a.tmod 10 = -(d : Int) := by have fq := FQ.out; have hd := HD.out; have f3 := F3.out; rw [if_pos hneg] at fq; omega
      clear hs
      go_enter Try.func27, Try.ntmps27
      go_upto_region 4 with fail
      go_region_with (go_at_call 27; with_reducible refine (HR.out _).mono ?_; rintro r w1 ⟨rfl, hb1⟩; (try have hcw := hcx w1 ((hb1.cell (p := ⟨w.heap.size, 0, none⟩) (cell_drew_lt w _)).trans (cell_drew_new w _))); have HB1 := Lib.hid hb1; clear hb1)
      all_goals
        go_wp2
        go_ret
        first
          | exact ⟨by rw [HP.out]; rfl, (((Below.refl w.heap.size w).drew).trans HB1.out).alloc HB1.out.size _⟩
          | exact ⟨by rw [HP.out]; rfl, (((Below.refl w.heap.size w).alloc (Nat.le_refl _) _).drew).trans (HB1.out.mono (Nat.le_of_lt (cell_drew_lt w _)))⟩
    · have hm10 : ¬ a < 10 := by omega
      have e1 : a.tmod 10 = (d : Int) := by have fq := FQ.out; have hd := HD.out; have f3 := F3.out; rw [if_neg hneg] at fq; omega
      clear hs
      go_enter Try.func27, Try.ntmps27
      go_upto_region 7 with fail
      go_region_with (go_at_call 27; with_reducible refine (HR.out _).mono ?_; rintro r w1 ⟨rfl, hb1⟩; (try have hcw := hcx w1 ((hb1.cell (p := ⟨w.heap.size, 0, none⟩) (cell_drew_lt w _)).trans (cell_drew_new w _))); have HB1 := Lib.hid hb1; clear hb1)
      all_goals
        go_wp2
        go_ret
        first
          | exact ⟨by rw [HP.out]; rfl, (((Below.refl w.heap.size w).drew).trans HB1.out).alloc HB1.out.size _⟩
          | exact ⟨by rw [HP.out]; rfl, (((Below.refl w.heap.size w).alloc (Nat.le_refl _) _).drew).trans (HB1.out.mono (Nat.le_of_lt (cell_drew_lt w _)))⟩
theorem refPrint_any (a : Int) (w : World) (a1 : -9223372036854775808 ≤ a) (a2 : a ≤ 9223372036854775807) : Calls Try.prog 27 #[.int .i64 a] w fun r w' => r = .returned (.string (txt (priL a))) ∧ Below w.heap.size w w' := refPrint_upto a.natAbs a w (Nat.le_refl _) a1 a2
end Go.Proofs.Ytbkliomiboekhaa

