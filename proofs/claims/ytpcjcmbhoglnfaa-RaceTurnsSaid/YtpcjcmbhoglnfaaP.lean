/- Race: the contract of races (the top law's own pictures). -/
import Derived.Test.YtpcjcmbhoglnfaaO
import Derived.Test.YtpcjcmbhoglnfaaJ
namespace Go.Proofs.Ytpcjcmbhoglnfaa
open Go.RowKit
set_option linter.unusedVariables false
set_option linter.unusedSimpArgs false

theorem flat_at9 {α : Type} {cells : α → List Value} {s : Nat} (hs : ∀ x, (cells x).length = s) : ∀ {L : List α} {i : Nat} {x : α}, L[i]? = some x → ∀ {j : Nat} {u : Value}, (cells x)[j]? = some u → (L.flatMap cells)[i * s + j]? = some u := by
  intro L
  induction L with
  | nil => intro i x h; simp at h
  | cons a L ih =>
    intro i x h j u hu
    rw [List.flatMap_cons]
    cases i with
    | zero =>
      simp at h; subst h
      have hj : j < (cells a).length := (List.getElem?_eq_some_iff.1 hu).1
      rw [List.getElem?_append_left (by omega), Nat.zero_mul, Nat.zero_add]
      exact hu
    | succ i =>
      have e : (i + 1) * s + j = s + (i * s + j) := by rw [Nat.succ_mul]; omega
      rw [e, List.getElem?_append_right (by rw [hs]; omega), hs, Nat.add_sub_cancel_left]
      exact ih (by simpa using h) hu
theorem Rd.lit {α : Type} {cells : α → List Value} {s : Nat} (hs : ∀ x, (cells x).length = s) (w : World) (t : TypeId) (L : List α) (cs : Array Value) (hc : cs.toList = L.flatMap cells) : Rd (w.alloc (.cells cs t)) (w.heap.size + 1) s cells (some ⟨w.heap.size, 0, none⟩) L := by
  refine .inr ⟨w.heap.size, 0, rfl, by omega, fun i x hx j u hu => ?_⟩
  rw [(Blk.new w t _).cell, Nat.zero_add, ← Array.getElem?_toList, hc]
  exact flat_at9 hs hx hu
theorem EvRow.lit (w : World) (n : Nat) (L : List Ev) (cs : Array Value) (hc : cs.toList = L.flatMap evC) (hn : L.length = n) (h3 : n ≤ 300) (hz : ∀ x ∈ L, x.path = [] ∧ x.pc = 0 ∧ (Lit.int .u8 x.kind).wf = true ∧ (Lit.int .i64 x.thread).wf = true ∧ (Lit.int .i64 x.id).wf = true) : EvRow (w.alloc (.cells cs 26)) (some ⟨w.heap.size, 0, none⟩) n n L where
  len := hn
  N := h3
  rd := by rw [World.size_alloc]; exact Rd.lit evC_len w 26 L cs hc
  ok := by
    intro x hx
    obtain ⟨h1, h2, h4, h5, h6⟩ := hz x hx
    exact ⟨h4, h5, h6, by rw [h1]; exact .inl rfl, by rw [h1]; simp, by rw [h1]; simp, by rw [h2]; unfold maxLen; omega⟩
  hp := by intro x hx; rw [(hz x hx).1]; simp
  cap := Nat.le_refl _
def lit3 : List Ev := [⟨7, 0, 1, none, 0, []⟩, ⟨2, 1, 5, none, 0, []⟩, ⟨1, 0, 5, none, 0, []⟩]
def lit5 : List Ev := [⟨7, 0, 1, none, 0, []⟩, ⟨2, 0, 5, none, 0, []⟩, ⟨6, 0, 9, none, 0, []⟩, ⟨5, 1, 9, none, 0, []⟩, ⟨1, 1, 5, none, 0, []⟩]

set_option maxRecDepth 100000 in
set_option maxHeartbeats 6400000 in
theorem races_any (w : World) : Calls Try.prog 11 #[] w fun r w' => r = .returned (.bool true) ∧ Below w.heap.size w w' := by
  have hF3 : ∀ w : World, Calls Try.prog 12 #[.slice (some ⟨w.heap.size, 0, none⟩) 3 3] (w.alloc (.cells #[.int .u8 7, .int .i64 0, .int .i64 1, .slice none 0 0, .int .u8 2, .int .i64 1, .int .i64 5, .slice none 0 0, .int .u8 1, .int .i64 0, .int .i64 5, .slice none 0 0] 26)) fun r w' => r = .returned (.tuple #[.int .i64 2, .int .i64 1, .bool true, .int .i64 0]) ∧ Below w.heap.size w w' := by
    intro w
    have h := EvRow.lit w 3 lit3 #[.int .u8 7, .int .i64 0, .int .i64 1, .slice none 0 0, .int .u8 2, .int .i64 1, .int .i64 5, .slice none 0 0, .int .u8 1, .int .i64 0, .int .i64 5, .slice none 0 0] rfl rfl (by omega) (by decide +kernel)
    have h2 := first_any _ 3 3 _ h
    rw [show firstAt lit3 = 2 by decide +kernel, show firstWith lit3 = 1 by decide +kernel, show firstIs lit3 = true by decide +kernel, show errL lit3 = 0 by decide +kernel] at h2
    refine h2.mono ?_
    rintro r w' ⟨rfl, hb⟩
    exact ⟨rfl, ((Below.refl _ w).alloc (Nat.le_refl _) _).trans (hb.mono (by simp))⟩
  have hF5 : ∀ w : World, Calls Try.prog 12 #[.slice (some ⟨w.heap.size, 0, none⟩) 5 5] (w.alloc (.cells #[.int .u8 7, .int .i64 0, .int .i64 1, .slice none 0 0, .int .u8 2, .int .i64 0, .int .i64 5, .slice none 0 0, .int .u8 6, .int .i64 0, .int .i64 9, .slice none 0 0, .int .u8 5, .int .i64 1, .int .i64 9, .slice none 0 0, .int .u8 1, .int .i64 1, .int .i64 5, .slice none 0 0] 26)) fun r w' => r = .returned (.tuple #[.int .i64 0, .int .i64 0, .bool false, .int .i64 0]) ∧ Below w.heap.size w w' := by
    intro w
    have h := EvRow.lit w 5 lit5 #[.int .u8 7, .int .i64 0, .int .i64 1, .slice none 0 0, .int .u8 2, .int .i64 0, .int .i64 5, .slice none 0 0, .int .u8 6, .int .i64 0, .int .i64 9, .slice none 0 0, .int .u8 5, .int .i64 1, .int .i64 9, .slice none 0 0, .int .u8 1, .int .i64 1, .int .i64 5, .slice none 0 0] rfl rfl (by omega) (by decide +kernel)
    have h2 := first_any _ 5 5 _ h
    rw [show firstAt lit5 = 0 by decide +kernel, show firstWith lit5 = 0 by decide +kernel, show firstIs lit5 = false by decide +kernel, show errL lit5 = 0 by decide +kernel] at h2
    refine h2.mono ?_
    rintro r w' ⟨rfl, hb⟩
    exact ⟨rfl, ((Below.refl _ w).alloc (Nat.le_refl _) _).trans (hb.mono (by simp))⟩
  go_enter Try.func11, Try.ntmps11
  go_wp2_with fail
  refine (hF3 _).mono ?_
  rintro r w1 ⟨rfl, hb1⟩
  have HB1 := Lib.hid hb1
  clear hb1
  go_wp2_with fail
  refine (hF5 _).mono ?_
  rintro r w2 ⟨rfl, hb2⟩
  have HB2 := Lib.hid (HB1.out.trans (hb2.mono HB1.out.size))
  clear hb2 HB1 hF3 hF5
  go_wp2
  go_ret
  exact ⟨rfl, HB2.out⟩
end Go.Proofs.Ytpcjcmbhoglnfaa
