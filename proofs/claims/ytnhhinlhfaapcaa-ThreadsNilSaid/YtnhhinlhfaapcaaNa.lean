/- Threads: a table that nobody made: nil, and the empty one. -/
import Derived.Test.YtnhhinlhfaapcaaQ
namespace Go.Proofs.Ytnhhinlhfaapcaa
open Go.RowKit Go.Shelf
set_option linter.unusedVariables false
set_option linter.unusedSimpArgs false
attribute [local go_sem] Oper.semAt_some

def NilT (W : World) (v : Value) : Prop := v = .pointer none ∨ ∃ b, v = .pointer (some ⟨b, 0, none⟩) ∧ Blk W b 56 #[.slice none 0 0]
theorem NilT.below {W W' : World} {v : Value} (h : NilT W v) (hb : Below W.heap.size W W') : NilT W' v := by
  rcases h with h | ⟨b, h, hk⟩
  · exact .inl h
  · exact .inr ⟨b, h, hk.below hb hk.lt⟩
theorem has_nil (v : Value) (n : Int) (w : World) (h : NilT w v) : Calls Try.prog 31 #[v, .int .i64 n] w fun r w' => r = .returned (.bool false) ∧ w = w' := by
  rcases h with rfl | ⟨b, rfl, hk⟩
  · go_enter Try.func31, Try.ntmps31
    go_wp2
    go_ret
    exact ⟨rfl, rfl⟩
  · have c0 := hk.cell 0
    clear hk
    by_cases h0 : n < 0
    · have h0' : ¬ (0 : Int) ≤ n := by omega
      go_enter Try.func31, Try.ntmps31
      go_wp2
      go_ret
      exact ⟨rfl, rfl⟩
    · have h0' : (0 : Int) ≤ n := by omega
      have h0d : decide (n < 0) = false := decide_eq_false h0
      go_enter Try.func31, Try.ntmps31
      go_wp2
      go_ret
      exact ⟨rfl, rfl⟩
theorem none_nil (v : Value) (w : World) (h : NilT w v) : Calls Try.prog 33 #[v] w fun r w' => r = .returned (.bool true) ∧ w = w' := by
  rcases h with rfl | ⟨b, rfl, hk⟩
  · go_enter Try.func33, Try.ntmps33
    go_wp2
    go_ret
    exact ⟨rfl, rfl⟩
  · have c0 := hk.cell 0
    clear hk
    go_enter Try.func33, Try.ntmps33
    go_wp2
    go_ret
    exact ⟨rfl, rfl⟩
theorem refuse_nil (v : Value) (n k : Int) (w : World) (h : NilT w v) : Calls Try.prog 32 #[v, .int .i64 n, .int .i64 k] w fun r w' => r = .returned (.int .i64 1) ∧ w = w' := by
  have HN := Lib.hid (none_nil v w h)
  clear h
  go_enter Try.func32, Try.ntmps32
  go_wp2_with fail
  refine HN.out.mono ?_
  rintro r w1 ⟨rfl, rfl⟩
  go_wp2
  go_ret
  exact ⟨rfl, rfl⟩
theorem open_nil (v : Value) (n : Int) (w : World) (h : NilT w v) : Calls Try.prog 20 #[v, .int .i64 n] w fun r w' => r = .returned (.int .i64 1) ∧ w = w' := by
  have HN := Lib.hid (refuse_nil v n 0 w h)
  clear h
  go_enter Try.func20, Try.ntmps20
  go_wp2_with fail
  refine HN.out.mono ?_
  rintro r w1 ⟨rfl, rfl⟩
  go_wp2
  go_ret
  exact ⟨rfl, rfl⟩
theorem end_nil (v : Value) (n : Int) (p : Bool) (w : World) (h : NilT w v) : Calls Try.prog 19 #[v, .int .i64 n, .bool p] w fun r w' => r = .returned (.int .i64 1) ∧ w = w' := by
  have HN := Lib.hid (refuse_nil v n 0 w h)
  clear h
  go_enter Try.func19, Try.ntmps19
  go_wp2_with fail
  refine HN.out.mono ?_
  rintro r w1 ⟨rfl, rfl⟩
  go_wp2
  go_ret
  exact ⟨rfl, rfl⟩
theorem spawn_nil (v : Value) (n : Int) (w : World) (h : NilT w v) : Calls Try.prog 21 #[v, .int .i64 n] w fun r w' => r = .returned (.tuple #[.int .i64 0, .int .i64 1]) ∧ w = w' := by
  have HN := Lib.hid (refuse_nil v n 1 w h)
  clear h
  go_enter Try.func21, Try.ntmps21
  go_wp2_with fail
  refine HN.out.mono ?_
  rintro r w1 ⟨rfl, rfl⟩
  go_wp2
  go_ret2
  exact ⟨rfl, rfl⟩
theorem runs_nil (v : Value) (n : Int) (w : World) (h : NilT w v) : Calls Try.prog 13 #[v, .int .i64 n] w fun r w' => r = .returned (.bool false) ∧ w = w' := by
  have HN := Lib.hid (has_nil v n w h)
  clear h
  go_enter Try.func13, Try.ntmps13
  go_wp2_with fail
  refine HN.out.mono ?_
  rintro r w1 ⟨rfl, rfl⟩
  go_wp2
  go_ret
  exact ⟨rfl, rfl⟩
theorem panicked_nil (v : Value) (n : Int) (w : World) (h : NilT w v) : Calls Try.prog 14 #[v, .int .i64 n] w fun r w' => r = .returned (.bool false) ∧ w = w' := by
  have HN := Lib.hid (has_nil v n w h)
  clear h
  go_enter Try.func14, Try.ntmps14
  go_wp2_with fail
  refine HN.out.mono ?_
  rintro r w1 ⟨rfl, rfl⟩
  go_wp2
  go_ret
  exact ⟨rfl, rfl⟩
theorem depth_nil (v : Value) (n : Int) (w : World) (h : NilT w v) : Calls Try.prog 16 #[v, .int .i64 n] w fun r w' => r = .returned (.int .i64 0) ∧ w = w' := by
  have HN := Lib.hid (has_nil v n w h)
  clear h
  go_enter Try.func16, Try.ntmps16
  go_wp2_with fail
  refine HN.out.mono ?_
  rintro r w1 ⟨rfl, rfl⟩
  go_wp2
  go_ret
  exact ⟨rfl, rfl⟩
theorem parent_nil (v : Value) (n : Int) (w : World) (h : NilT w v) : Calls Try.prog 22 #[v, .int .i64 n] w fun r w' => r = .returned (.int .i64 (-1)) ∧ w = w' := by
  have HN := Lib.hid (has_nil v n w h)
  clear h
  go_enter Try.func22, Try.ntmps22
  go_wp2_with fail
  refine HN.out.mono ?_
  rintro r w1 ⟨rfl, rfl⟩
  go_wp2
  go_ret
  exact ⟨rfl, rfl⟩
theorem len_nil (v : Value) (w : World) (h : NilT w v) : Calls Try.prog 18 #[v] w fun r w' => r = .returned (.int .i64 0) ∧ w = w' := by
  have HN := Lib.hid (none_nil v w h)
  clear h
  go_enter Try.func18, Try.ntmps18
  go_wp2_with fail
  refine HN.out.mono ?_
  rintro r w1 ⟨rfl, rfl⟩
  go_wp2
  go_ret
  exact ⟨rfl, rfl⟩
/-! ### what ranges -/
set_option maxRecDepth 100000 in
set_option maxHeartbeats 6400000 in
theorem close_nil (p : Option Addr) (N : Int) (w : World) (h : NilT w (.pointer p)) : Calls Try.prog 17 #[.pointer p, .int .i64 N] w fun e W' => e = .returned (.tuple #[.bool false, .int .i64 1]) ∧ Below w.heap.size w W' := by
  refine (callsIn_wide (n := 5)).1 ?_
  have HRF := Lib.hid (fun W (hW : Below w.heap.size w W) => (callsIn_wide (n := 4)).2 (refuse_nil (.pointer p) N 1 W (h.below hW)))
  refine callsIn_of_wp_marks Try.func17 rfl trivial ?_ rfl
  simp only [Try.ntmps17, List.size_toArray, List.length_cons, List.length_nil, Nat.reduceAdd, Nat.reduceSub, Array.replicate_succ, Array.replicate_zero, List.push_toArray, List.append_toArray, List.nil_append, List.cons_append]
  obtain ⟨W2, hW2⟩ : ∃ W2, W2 = (w.alloc (.cells #[.pointer p] 24)).alloc (.cells #[.bool false] 4) := ⟨_, rfl⟩
  have kT : Blk W2 w.heap.size 24 #[.pointer p] := by rw [hW2]; exact (Blk.new w 24 _).alloc _
  have kR : Blk W2 (w.heap.size + 1) 4 #[.bool false] := by
    have h := Blk.new (w.alloc (.cells #[.pointer p] 24)) 4 #[.bool false]
    rw [World.size_alloc] at h
    rw [hW2]; exact h
  have hB0 : Below w.heap.size w W2 := by rw [hW2]; exact ((Below.refl _ w).alloc (Nat.le_refl _) _).alloc (by simp) _
  have HW2 := Lib.hid hW2
  clear hW2 h
  have c0 : W2.cell? ⟨w.heap.size, 0, none⟩ = some (.pointer p) := kT.cell 0
  have c1 : W2.cell? ⟨w.heap.size + 1, 0, none⟩ = some (.bool false) := kR.cell 0
  have f1 := kR.frozen 0
  have l1 := kR.lt
  gi_wp2_with fail
  rw [← HW2.out]
  gi_wp2_with fail
  refine ⟨trivial, ?_⟩
  refine (HRF.out _ hB0).mono ?_
  rintro e w1 ⟨rfl, rfl⟩
  gi_wp2
  have hcs : (W2.setCell ⟨w.heap.size + 1, 0, none⟩ (.bool false)).cell? ⟨w.heap.size + 1, 0, none⟩ = some (.bool false) := World.cell?_setCell_same' _ _ _ (by rw [c1]; rfl)
  refine ⟨.tuple #[.bool false, .int .i64 1], ?_, rfl, hB0.setCell (p := ⟨w.heap.size + 1, 0, none⟩) (by simp) _⟩
  simp [results, Try.f17, go_sem, hcs]
set_option maxRecDepth 100000 in
set_option maxHeartbeats 6400000 in
theorem members1_nil (n : Nat) (hn : 1 ≤ n) (l b1 b2 : Nat) (v : Value) (N : Int) (W : World) (h : NilT W v) (q1 : W.cell? ⟨b1, 0, none⟩ = some v) (q2 : W.cell? ⟨b2, 0, none⟩ = some (.int .i64 N)) :
    CallsIn Fence.wide n Try.prog 40 #[.func (.yield l) #[] #[], .pointer (some ⟨b1, 0, none⟩), .pointer (some ⟨b2, 0, none⟩)] W fun e W' => (∃ v, e = .returned v) ∧ W' = W.drew := by
  have HR := Lib.hid (callsIn_wide (n := n - 1).2 (has_nil v N W.drew (h.below (Below.refl _ _).drew)))
  clear h
  refine callsIn_of_wp Try.func40 rfl trivial ?_ rfl
  simp only [Try.ntmps40, List.size_toArray, List.length_cons, List.length_nil, Nat.reduceAdd, Nat.reduceSub, Array.replicate_succ, Array.replicate_zero, List.push_toArray, List.append_toArray, List.nil_append, List.cons_append]
  gi_wp2
  gi_cut [21] from 22 (fun v wx => v = .bool true ∧ W.drew = wx)
  case first =>
    gi_region_with (first
      | (refine ⟨trivial, ?_⟩; gi_at_call 31; refine HR.out.mono ?_; rintro e w' ⟨rfl, rfl⟩))
    all_goals
      gi_wp2
      gi_meet
      case rel => exact ⟨rfl, rfl⟩
  case rest =>
  obtain ⟨rfl, rfl⟩ := hcut
  gi_wp2
  refine bodyPost_ret (results_none rfl _ _ _) rfl ?_
  exact ⟨⟨_, rfl⟩, rfl⟩
theorem stops_nil (n : Nat) (hn : 1 ≤ n) (b1 b2 : Nat) (v : Value) (N : Int) (wt w0 : World) (h : NilT w0 v) (h1 : w0.cell? ⟨b1, 0, none⟩ = some v) (h2 : w0.cell? ⟨b2, 0, none⟩ = some (.int .i64 N)) (hb1 : b1 < w0.heap.size) (hb2 : b2 < w0.heap.size) :
    SeqStopsK Fence.wide n Try.prog 40 #[.pointer (some ⟨b1, 0, none⟩), .pointer (some ⟨b2, 0, none⟩)] (fun x : Nat => #[natV x]) (Below wt.heap.size) (fun ys => ys = []) (fun pre => False) 0 w0 := fun l J Jx W hW hJ hJx hY h0 => by
  refine (members1_nil n hn l b1 b2 v N W (h.below hW) ((hW.cell (p := ⟨b1, 0, none⟩) hb1).trans h1) ((hW.cell (p := ⟨b2, 0, none⟩) hb2).trans h2)).mono ?_
  rintro e W' ⟨hv, rfl⟩
  exact ⟨hv, .inl ⟨[], rfl, hJ [] W W.drew none h0 ⟨rfl, rfl, rfl, Nat.le_refl _, fun _ _ _ => rfl⟩ (fun r e => by cases e)⟩⟩
theorem members_nilp (n : Nat) (p : Option Addr) (N : Int) (w : World) :
    CallsIn Fence.wide n Try.prog 30 #[.pointer p, .int .i64 N] w fun e w' => e = .returned (.func (.func 40) #[] #[.pointer (some ⟨w.heap.size, 0, none⟩), .pointer (some ⟨w.heap.size + 1, 0, none⟩)]) ∧ w' = (w.alloc (.cells #[.pointer p] 24)).alloc (.cells #[.int .i64 N] 3) := by
  have hmf : ∀ (fn : Fn) (first cap : Array Value) (w : World), (Instr.makeFunc fn first cap).run Try.prog w = .ok (.func fn first cap) w := fun _ _ _ _ => rfl
  refine callsIn_of_wp Try.func30 rfl trivial ?_ rfl
  simp only [Try.ntmps30, List.size_toArray, List.length_cons, List.length_nil, Nat.reduceAdd, Nat.reduceSub, Array.replicate_succ, Array.replicate_zero, List.push_toArray, List.append_toArray, List.nil_append, List.cons_append]
  gi_wp2
  go_ret
  exact ⟨rfl, rfl⟩
theorem appendSeq_nil (n : Nat) (hn : 3 ≤ n) (b1 b2 : Nat) (p : Option Addr) (N : Int) (w : World) (h : NilT w (.pointer p)) (h1 : w.cell? ⟨b1, 0, none⟩ = some (.pointer p)) (h2 : w.cell? ⟨b2, 0, none⟩ = some (.int .i64 N)) (hb1 : b1 < w.heap.size) (hb2 : b2 < w.heap.size) :
    CallsIn Fence.wide n Try.prog 39 #[.slice none 0 0, .func (.func 40) #[] #[.pointer (some ⟨b1, 0, none⟩), .pointer (some ⟨b2, 0, none⟩)]] w fun e W' => e = .returned (.slice none 0 0) ∧ Below w.heap.size w W' := by
  have hn1 : 1 ≤ n := by omega
  refine callsIn_of_wp_marks Try.func39 rfl trivial ?_ rfl
  simp only [Try.ntmps39, List.size_toArray, List.length_cons, List.length_nil, Nat.reduceAdd, Nat.reduceSub, Array.replicate_succ, Array.replicate_zero, List.push_toArray, List.append_toArray, List.nil_append, List.cons_append]
  gi_wp2
  have kB : Blk (w.alloc (.cells #[.slice none 0 0] 29)) w.heap.size 29 #[.slice none 0 0] := Blk.new w 29 _
  have hB0 : Below w.heap.size w (w.alloc (.cells #[.slice none 0 0] 29)) := (Below.refl _ w).alloc (Nat.le_refl _) _
  have hst := stops_nil (n - 1) (by omega) b1 b2 (.pointer p) N w w h h1 h2 hb1 hb2
  refine wpIn_rangeFunc_ownG rfl hn1 (gf := 40) (lb := #[.pointer (some ⟨b1, 0, none⟩), .pointer (some ⟨b2, 0, none⟩)]) rfl trivial (enters_of Try.func40 (by kernel_rfl) rfl)
    hst belowK_t (belowK_b (by simp)) hB0 (fun _ => rfl)
    (fun pre W => Blk W w.heap.size 29 #[.slice none 0 0] ∧ Below w.heap.size w W)
    (fun c pre W => False)
    (OwnFrom.and (Own.from (fun s X Y row hs hg hr => (grownBy_keeps_cells hg hr hs rfl).trans hs) _) (ownFrom_below (Nat.le_refl _) (by simp)))
    (fun c => Own.from (fun s X Y row hs hg hr => hs) _)
    ⟨kB, hB0⟩
    (fun x => { tmps := #[.slice none 0 0, .func (.func 40) #[] #[.pointer (some ⟨b1, 0, none⟩), .pointer (some ⟨b2, 0, none⟩)], .pointer (some ⟨w.heap.size, 0, none⟩), undef, .slice none 0 0, natV x, .func (.func 40) #[] #[.pointer (some ⟨b1, 0, none⟩), .pointer (some ⟨b2, 0, none⟩)], natV x, undef, undef, undef, undef, undef], defers := [] }) ?assign ?body ?done ?stop
  case assign =>
    intro l x W K hK
    gi_wp2
    exact hK
  case body => exact fun l pre x W hj hlt => absurd hlt (Nat.not_lt_zero _)
  case done =>
    rintro D' ys W hD hys ⟨hk, hB⟩ hK
    clear hst h1 h2
    have hcb : W.cell? ⟨w.heap.size, 0, none⟩ = some (.slice none 0 0) := hk.cell 0
    clear hk
    gi_wp2
    refine ⟨by simp, .inl ⟨_, _, rfl, run_takeDeferred hK, ?_⟩⟩
    refine ⟨.slice none 0 0, ?_, rfl, hB.trans (belowK_b (w := w) (Nat.le_refl _) W D' _ _ (by simp at hD; omega) hK rfl rfl)⟩
    simp [results, Try.f39, go_sem]
  case stop =>
    rintro D' c pre W hD h hj hK
    exact h.elim
theorem collect_nil (n : Nat) (hn : 4 ≤ n) (b1 b2 : Nat) (p : Option Addr) (N : Int) (w : World) (h : NilT w (.pointer p)) (h1 : w.cell? ⟨b1, 0, none⟩ = some (.pointer p)) (h2 : w.cell? ⟨b2, 0, none⟩ = some (.int .i64 N)) (hb1 : b1 < w.heap.size) (hb2 : b2 < w.heap.size) :
    CallsIn Fence.wide n Try.prog 29 #[.func (.func 40) #[] #[.pointer (some ⟨b1, 0, none⟩), .pointer (some ⟨b2, 0, none⟩)]] w fun e W' => e = .returned (.slice none 0 0) ∧ Below w.heap.size w W' := by
  have hc := appendSeq_nil (n - 1) (by omega) b1 b2 p N w h h1 h2 hb1 hb2
  have HC := Lib.hid hc
  clear hc h
  refine callsIn_of_wp Try.func29 rfl trivial ?_ rfl
  simp only [Try.ntmps29, List.size_toArray, List.length_cons, List.length_nil, Nat.reduceAdd, Nat.reduceSub, Array.replicate_succ, Array.replicate_zero, List.push_toArray, List.append_toArray, List.nil_append, List.cons_append]
  gi_wp2_with fail
  refine ⟨trivial, fun _ => by omega, ?_⟩
  refine HC.out.mono ?_
  rintro e w1 ⟨rfl, hB⟩
  have HB := Lib.hid hB
  clear hB
  gi_wp2
  go_ret
  exact ⟨rfl, HB.out⟩
theorem members_nil (p : Option Addr) (N : Int) (w : World) (h : NilT w (.pointer p)) :
    Calls Try.prog 12 #[.pointer p, .int .i64 N] w fun e W' => e = .returned (.slice none 0 0) ∧ Below w.heap.size w W' := by
  have hm := members_nilp 5 p N w
  refine (callsIn_wide (n := 6)).1 ?_
  have HM := Lib.hid hm
  clear hm
  obtain ⟨w1, hw1⟩ : ∃ w1, w1 = (w.alloc (.cells #[.pointer p] 24)).alloc (.cells #[.int .i64 N] 3) := ⟨_, rfl⟩
  have b1 := Boxed.new w 24 (.pointer p)
  have b2 := Boxed.new (w.alloc (.cells #[.pointer p] 24)) 3 (.int .i64 N)
  simp only [World.size_alloc] at b2
  have hB0 : Below w.heap.size w w1 := by rw [hw1]; exact ((Below.refl _ w).alloc (Nat.le_refl _) _).alloc (by simp) _
  have hc := collect_nil 5 (by omega) w.heap.size (w.heap.size + 1) p N w1 (h.below hB0) (by rw [hw1]; exact (b1.alloc _).cell) (by rw [hw1]; exact b2.cell) (by rw [hw1]; simp; omega) (by rw [hw1]; simp)
  have HC := Lib.hid hc
  clear hc b1 b2 h
  refine callsIn_of_wp Try.func12 rfl trivial ?_ rfl
  simp only [Try.ntmps12, List.size_toArray, List.length_cons, List.length_nil, Nat.reduceAdd, Nat.reduceSub, Array.replicate_succ, Array.replicate_zero, List.push_toArray, List.append_toArray, List.nil_append, List.cons_append]
  have HW := Lib.hid hw1
  clear hw1
  gi_wp2_with fail
  refine ⟨trivial, ?_⟩
  refine HM.out.mono ?_
  rintro e w2 ⟨rfl, rfl⟩
  rw [← HW.out]
  gi_wp2_with fail
  refine ⟨trivial, ?_⟩
  refine HC.out.mono ?_
  rintro e w2 ⟨rfl, hB⟩
  have HB := Lib.hid (hB0.trans (hB.mono hB0.size))
  clear hB
  gi_wp2
  go_ret
  exact ⟨rfl, HB.out⟩
set_option maxRecDepth 100000 in
set_option maxHeartbeats 8000000 in
theorem waits_nil (p : Option Addr) (N : Int) (w : World) (hx : NilT w (.pointer p)) :
    Calls Try.prog 15 #[.pointer p, .int .i64 N] w fun e W' => e = .returned (.bool false) ∧ Below w.heap.size w W' := by
  refine (callsIn_wide (n := 3)).1 ?_
  refine callsIn_of_wp_marks Try.func15 rfl trivial ?_ rfl
  simp only [Try.ntmps15, List.size_toArray, List.length_cons, List.length_nil, Nat.reduceAdd, Nat.reduceSub, Array.replicate_succ, Array.replicate_zero, List.push_toArray, List.append_toArray, List.nil_append, List.cons_append]
  gi_wp2_with fail
  refine ⟨trivial, ?_⟩
  refine (members_nilp 2 _ _ _).mono ?_
  rintro e w1 ⟨rfl, rfl⟩
  gi_wp2
  have bR := Boxed.new (w.alloc (.cells #[.pointer p] 24)) 4 (.bool false)
  have b1 := Boxed.new ((w.alloc (.cells #[.pointer p] 24)).alloc (.cells #[.bool false] 4)) 24 (.pointer p)
  have b2 := Boxed.new (((w.alloc (.cells #[.pointer p] 24)).alloc (.cells #[.bool false] 4)).alloc (.cells #[.pointer p] 24)) 3 (.int .i64 N)
  simp only [World.size_alloc] at bR b1 b2
  have hB0 : Below w.heap.size w ((((w.alloc (.cells #[.pointer p] 24)).alloc (.cells #[.bool false] 4)).alloc (.cells #[.pointer p] 24)).alloc (.cells #[.int .i64 N] 3)) := ((((Below.refl _ w).alloc (Nat.le_refl _) _).alloc (by simp) _).alloc (by simp; omega) _).alloc (by simp; omega) _
  have hst := stops_nil 2 (by omega) (w.heap.size + 1 + 1) (w.heap.size + 1 + 1 + 1) (.pointer p) N w _ (hx.below hB0) ((b1.alloc _).cell) b2.cell (by simp) (by simp)
  refine wpIn_rangeFunc_ownG rfl (by omega) (gf := 40) (lb := #[.pointer (some ⟨w.heap.size + 1 + 1, 0, none⟩), .pointer (some ⟨w.heap.size + 1 + 1 + 1, 0, none⟩)]) rfl trivial (enters_of Try.func40 (by kernel_rfl) rfl)
    hst belowK_t (belowK_b (by simp; omega)) (Below.refl _ _) (fun _ => rfl)
    (fun pre W => (W.cell? ⟨w.heap.size + 1, 0, none⟩ = some (.bool false) ∧ W.frozen? ⟨w.heap.size + 1, 0, none⟩ = false) ∧ Below w.heap.size w W)
    (fun c pre W => False)
    (OwnFrom.and (Own.from (fun s A B row hs hg hr => ⟨cell_kept hs.1 hg hr, (frozen_kept hs.1 hg hr).trans hs.2⟩) _) (ownFrom_below (Nat.le_refl _) (by simp; omega)))
    (fun c => Own.from (fun s A B row hs hg hr => hs) _)
    ⟨⟨((bR.alloc _).alloc _).cell, ((bR.alloc _).alloc _).frozen⟩, hB0⟩
    (fun x => { tmps := #[.pointer p, .int .i64 N, .pointer (some ⟨w.heap.size, 0, none⟩), undef, .pointer (some ⟨w.heap.size + 1, 0, none⟩), natV x, .pointer p, .int .i64 N, .func (.func 40) #[] #[.pointer (some ⟨w.heap.size + 1 + 1, 0, none⟩), .pointer (some ⟨w.heap.size + 1 + 1 + 1, 0, none⟩)], natV x, undef, undef, undef, undef, undef, undef, undef, undef, undef], defers := [] }) ?assign ?body ?done ?stop
  case assign =>
    intro l x W K hK
    gi_wp2
    exact hK
  case body => exact fun l pre x W hj hlt => absurd hlt (Nat.not_lt_zero _)
  case done =>
    rintro D' ys W hD hys ⟨⟨hcr, hfr⟩, hB⟩ hK
    clear hst
    gi_wp2
    have hK' := (KeepsOthers.setCell W ⟨w.heap.size + 1, 0, none⟩ (.bool false)).same D' _ hK rfl
    refine ⟨by simp, .inl ⟨_, _, rfl, run_takeDeferred hK', ?_⟩⟩
    have hc5 := cell_kept (World.cell?_setCell_same' W ⟨w.heap.size + 1, 0, none⟩ (.bool false) (by rw [hcr]; rfl)) (grownBy_putObj' _ D' (.deferred none)) (fun r e => by cases e; exact ⟨_, hK', rfl⟩)
    refine ⟨.bool false, ?_, rfl, (hB.setCell (p := ⟨w.heap.size + 1, 0, none⟩) (by simp) _).trans (belowK_b (w := w) (Nat.le_refl _) _ D' _ _ (by simp at hD; omega) hK' rfl rfl)⟩
    simp [results, Try.f15, go_sem, hc5]
  case stop =>
    rintro D' c pre W hD h hj hK
    exact h.elim
end Go.Proofs.Ytnhhinlhfaapcaa
