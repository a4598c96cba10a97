/- Threads: members' contract; Waits, which ranges over it. -/
import Derived.Test.YtnhhinlhfaapcaaG
namespace Go.Proofs.Ytnhhinlhfaapcaa
open Go.RowKit Go.Shelf
set_option linter.unusedVariables false
attribute [local go_sem] Oper.semAt_some

theorem members_in (n : Nat) (g : Nat) (N : Int) (w : World) :
    CallsIn Fence.wide n Try.prog 30 #[.pointer (some ⟨g, 0, none⟩), .int .i64 N] w fun e w' => e = .returned (.func (.func 40) #[] #[.pointer (some ⟨w.heap.size, 0, none⟩), .pointer (some ⟨w.heap.size + 1, 0, none⟩)]) ∧ w' = (w.alloc (.cells #[.pointer (some ⟨g, 0, none⟩)] 24)).alloc (.cells #[.int .i64 N] 3) := by
  have hmf : ∀ (fn : Fn) (first cap : Array Value) (w : World), (Instr.makeFunc fn first cap).run Try.prog w = .ok (.func fn first cap) w := fun _ _ _ _ => rfl
  refine callsIn_of_wp Try.func30 rfl trivial ?_ rfl
  simp only [Try.ntmps30, List.size_toArray, List.length_cons, List.length_nil, Nat.reduceAdd, Nat.reduceSub, Array.replicate_succ, Array.replicate_zero, List.push_toArray, List.append_toArray, List.nil_append, List.cons_append]
  gi_wp2
  go_ret
  exact ⟨rfl, rfl⟩

/-- what is handed over: a thread that there is -/
abbrev Mb (t : Tab) : Type := {m : Nat // m < t.n}
theorem members_stops (n : Nat) (hn : 1 ≤ n) (b1 b2 g B : Nat) (t : Tab) (N : Int) (wt w0 : World) (hx : TabR wt B g t) (hwt : Below wt.heap.size wt w0) (h1 : w0.cell? ⟨b1, 0, none⟩ = some (.pointer (some ⟨g, 0, none⟩))) (h2 : w0.cell? ⟨b2, 0, none⟩ = some (.int .i64 N)) (hb1 : b1 < w0.heap.size) (hb2 : b2 < w0.heap.size) (hm9 : (memL t N).length ≤ 1000) (hml : ∀ m ∈ memL t N, m < t.n) :
    SeqStopsK Fence.wide n Try.prog 40 #[.pointer (some ⟨b1, 0, none⟩), .pointer (some ⟨b2, 0, none⟩)] (fun x : Mb t => #[natV x.1]) (Below wt.heap.size) (fun ys => ys.map Subtype.val = memL t N)
      (fun pre => ∃ k, k ≤ (memL t N).length ∧ pre.map Subtype.val = (memL t N).take k) (memL t N).length w0 := fun l J Jx W hW hJ hJx hY h0 => by
  have key := members1_in n hn l b1 b2 g B t N wt w0 hx hwt h1 h2 hb1 hb2 hm9 (fun pre W => ∃ p : List (Mb t), p.map Subtype.val = pre ∧ J p W) (fun pre W => ∃ p : List (Mb t), p.map Subtype.val = pre ∧ Jx p W) (fun pre x W hj hl hxm => by
    obtain ⟨p, rfl, hj⟩ := hj
    rw [List.length_map] at hl
    obtain ⟨fn, tmps, assign, body, hy, hR⟩ := hY p ⟨x, hml x hxm⟩ W hj hl
    refine ⟨fn, tmps, assign, body, hy, hR.mono ?_⟩
    rintro e W' (⟨rfl, h1, h2⟩ | ⟨rfl, h1⟩)
    · exact .inl ⟨rfl, ⟨p ++ [⟨x, hml x hxm⟩], by simp, h1⟩, h2⟩
    · exact .inr ⟨rfl, p ++ [⟨x, hml x hxm⟩], by simp, h1⟩) W hW ⟨[], rfl, h0⟩ (by
    rintro pre W1 ⟨p, e, hj⟩
    exact ⟨p, e, hJ p W1 W1.drew none hj ⟨rfl, rfl, rfl, Nat.le_refl _, fun _ _ _ => rfl⟩ (fun r e => by cases e)⟩)
  refine key.mono ?_
  rintro e W' ⟨hv, h⟩
  refine ⟨hv, ?_⟩
  rcases h with ⟨ys, e1, p, e2, hj⟩ | ⟨pre, ⟨k, hk, e1⟩, p, e2, hj⟩
  · exact .inl ⟨p, e2.trans e1, hj⟩
  · exact .inr ⟨p, ⟨k, hk, e2.trans e1⟩, hj⟩
end Go.Proofs.Ytnhhinlhfaapcaa
